/- ssz.Check at a branch of three and the place 4 gives an answer. -/
import Derived.Test.YtpfmdhcmhcoddaaGreatDoorHedA
import Derived.Test.YtpfmdhcmhcoddaaGreatDoorRdJ
import Derived.Scope
import Derived.Test.YtpfmdhcmhcoddaaGreatDoorHedE
import Derived.Test.YtpfmdhcmhcoddaaGreatDoorComA
import Derived.Test.YtpfmdhcmhcoddaaGreatDoorRange
namespace Go.Proofs.YtpfmdhcmhcoddaaGreatDoor
open Go.RowKit Go.Shelf Go.Lib

set_option maxRecDepth 100000 in
set_option maxHeartbeats 3200000 in
theorem check3_some (v : Value) (leaf s0 s1 s2 root : ByteArray) (w : World) (hv : Strs w v [s0, s1, s2]) (hK : KTab w) :
    Calls Tryz.prog 120 #[.string leaf, v, .int .u64 4, .string root] w fun e w' => (∃ b, e = .returned (.bool b)) ∧ Below w.heap.size w w' := by
  have H1 := Lib.hid (fun (s : ByteArray) W => isChunk_any s W)
  have HV := Lib.hid hv
  have HK := Lib.hid hK
  obtain ⟨p, c, rfl, -, h | ⟨bk, o, rfl, hk, hat⟩⟩ := hv
  · cases h
  · have c0 : w.cell? ⟨bk, o, none⟩ = some (.string s0) := by simpa using hat 0 s0 rfl
    have c1 : w.cell? ⟨bk, o + 1, none⟩ = some (.string s1) := hat 1 s1 rfl
    have c2 : w.cell? ⟨bk, o + 2, none⟩ = some (.string s2) := hat 2 s2 rfl
    clear hat hK
    have HL := Lib.hid (Eq.refl leaf.size)
    by_cases h1 : leaf.size = 32
    · have d1 : decide (leaf.size = 32) = true := decide_eq_true h1
      by_cases h2 : root.size = 32
      · have d2 : decide (root.size = 32) = true := decide_eq_true h2
        have P1 := H1.out leaf
        have P2 := H1.out root
        rw [d1] at P1; rw [d2] at P2
        clear d1 d2
        have H2 := Lib.hid P1
        have H3 := Lib.hid P2
        clear P1 P2
        have G1 := Lib.hid h1
        clear h1 h2
        go_enter Tryz.func120, Tryz.ntmps120
        go_wp2_with fail
        refine (H2.out _).mono ?_
        rintro e w1 ⟨rfl, rfl⟩
        go_wp2_with fail
        refine (H3.out _).mono ?_
        rintro e w2 ⟨rfl, rfl⟩
        go_wp2
        go_loopw [0, 2, 33] (fun t n i wr => Below w2.heap.size w2 wr ∧ (∃ x : ByteArray, t = .string x ∧ x.size = 32) ∧ ((n = .int .u64 4 ∧ i = .int .i64 0) ∨ (n = .int .u64 2 ∧ i = .int .i64 1) ∨ (n = .int .u64 1 ∧ i = .int .i64 2) ∨ (n = .int .u64 0 ∧ i = .int .i64 3))) (fun _ _ i _ => 3 - (RowKit.intOf i).toNat)
        case atStart => exact ⟨Below.refl _ _, ⟨leaf, rfl, G1.out⟩, .inl ⟨rfl, rfl⟩⟩
        case round =>
          obtain ⟨hB, ⟨x, rfl, hx⟩, h⟩ := hrel
          have d0 := (hB.cell (p := ⟨bk, o, none⟩) hk).trans c0
          have d1 := (hB.cell (p := ⟨bk, o + 1, none⟩) hk).trans c1
          have d2 := (hB.cell (p := ⟨bk, o + 2, none⟩) hk).trans c2
          have hKr := HK.out.below hB
          have HB := Lib.hid hB
          have hx' : x.size ≤ 1048576 := by omega
          clear hB
          rcases h with ⟨rfl, rfl⟩ | ⟨rfl, rfl⟩ | ⟨rfl, rfl⟩ | ⟨rfl, rfl⟩
          · by_cases h3 : s0.size = 32
            · have d3 : decide (s0.size = 32) = true := decide_eq_true h3
              have P3 := H1.out s0
              rw [d3] at P3
              have H4 := Lib.hid P3
              have hs : s0.size ≤ 1048576 := by omega
              have hS := Lib.hid (sum2_any x s0 wr _ (.inl rfl) hx' hs hKr)
              have hz := Lib.hid (hash2_size x s0)
              obtain ⟨y, hy⟩ : ∃ y, hash2 x s0 = y := ⟨_, rfl⟩
              rw [hy] at hS hz
              clear P3 d3 h3 hs hy hx hx' hKr
              go_wp2_with fail
              refine (H4.out _).mono ?_
              rintro e w3 ⟨rfl, rfl⟩
              go_wp2_with fail
              refine hS.out.mono ?_
              rintro e w4 ⟨rfl, hb4⟩
              go_wp2
              exact ⟨⟨(HB.out.alloc HB.out.size _).trans (hb4.mono (by have := HB.out.size; simp; omega)), ⟨_, rfl, hz.out⟩, .inr (.inl ⟨rfl, rfl⟩)⟩, by simp [RowKit.intOf]⟩
            · have d3 : decide (s0.size = 32) = false := decide_eq_false h3
              have P3 := H1.out s0
              rw [d3] at P3
              have H4 := Lib.hid P3
              clear P3 d3 h3 hx hx' hKr
              go_wp2_with fail
              refine (H4.out _).mono ?_
              rintro e w3 ⟨rfl, rfl⟩
              go_wp2
              go_ret
              exact ⟨⟨_, rfl⟩, HB.out⟩
          · by_cases h3 : s1.size = 32
            · have d3 : decide (s1.size = 32) = true := decide_eq_true h3
              have P3 := H1.out s1
              rw [d3] at P3
              have H4 := Lib.hid P3
              have hs : s1.size ≤ 1048576 := by omega
              have hS := Lib.hid (sum2_any x s1 wr _ (.inl rfl) hx' hs hKr)
              have hz := Lib.hid (hash2_size x s1)
              obtain ⟨y, hy⟩ : ∃ y, hash2 x s1 = y := ⟨_, rfl⟩
              rw [hy] at hS hz
              clear P3 d3 h3 hs hy hx hx' hKr
              go_wp2_with fail
              refine (H4.out _).mono ?_
              rintro e w3 ⟨rfl, rfl⟩
              go_wp2_with fail
              refine hS.out.mono ?_
              rintro e w4 ⟨rfl, hb4⟩
              go_wp2
              exact ⟨⟨(HB.out.alloc HB.out.size _).trans (hb4.mono (by have := HB.out.size; simp; omega)), ⟨_, rfl, hz.out⟩, .inr (.inr (.inl ⟨rfl, rfl⟩))⟩, by simp [RowKit.intOf]⟩
            · have d3 : decide (s1.size = 32) = false := decide_eq_false h3
              have P3 := H1.out s1
              rw [d3] at P3
              have H4 := Lib.hid P3
              clear P3 d3 h3 hx hx' hKr
              go_wp2_with fail
              refine (H4.out _).mono ?_
              rintro e w3 ⟨rfl, rfl⟩
              go_wp2
              go_ret
              exact ⟨⟨_, rfl⟩, HB.out⟩
          · by_cases h3 : s2.size = 32
            · have d3 : decide (s2.size = 32) = true := decide_eq_true h3
              have P3 := H1.out s2
              rw [d3] at P3
              have H4 := Lib.hid P3
              have hs : s2.size ≤ 1048576 := by omega
              have hS := Lib.hid (sum2_any s2 x wr _ (.inl rfl) hs hx' hKr)
              have hz := Lib.hid (hash2_size s2 x)
              obtain ⟨y, hy⟩ : ∃ y, hash2 s2 x = y := ⟨_, rfl⟩
              rw [hy] at hS hz
              clear P3 d3 h3 hs hy hx hx' hKr
              go_wp2_with fail
              refine (H4.out _).mono ?_
              rintro e w3 ⟨rfl, rfl⟩
              go_wp2_with fail
              refine hS.out.mono ?_
              rintro e w4 ⟨rfl, hb4⟩
              go_wp2
              exact ⟨⟨(HB.out.alloc HB.out.size _).trans (hb4.mono (by have := HB.out.size; simp; omega)), ⟨_, rfl, hz.out⟩, .inr (.inr (.inr ⟨rfl, rfl⟩))⟩, by simp [RowKit.intOf]⟩
            · have d3 : decide (s2.size = 32) = false := decide_eq_false h3
              have P3 := H1.out s2
              rw [d3] at P3
              have H4 := Lib.hid P3
              clear P3 d3 h3 hx hx' hKr
              go_wp2_with fail
              refine (H4.out _).mono ?_
              rintro e w3 ⟨rfl, rfl⟩
              go_wp2
              go_ret
              exact ⟨⟨_, rfl⟩, HB.out⟩
          · clear d0 d1 d2 hx hx' hKr
            go_wp2
            go_ret
            exact ⟨⟨_, rfl⟩, HB.out⟩
      · have d1' : decide (leaf.size = 32) = true := decide_eq_true h1
        have d2 : decide (root.size = 32) = false := decide_eq_false h2
        have P1 := H1.out leaf
        have P2 := H1.out root
        rw [d1'] at P1; rw [d2] at P2
        have H2 := Lib.hid P1
        have H3 := Lib.hid P2
        clear P1 P2 d1 d1' d2 h1 h2
        go_enter Tryz.func120, Tryz.ntmps120
        go_wp2_with fail
        refine (H2.out _).mono ?_
        rintro e w1 ⟨rfl, rfl⟩
        go_wp2_with fail
        refine (H3.out _).mono ?_
        rintro e w2 ⟨rfl, rfl⟩
        go_wp2
        go_ret
        exact ⟨⟨_, rfl⟩, Below.refl _ _⟩
    · have d1 : decide (leaf.size = 32) = false := decide_eq_false h1
      have P1 := H1.out leaf
      rw [d1] at P1
      have H2 := Lib.hid P1
      clear P1 d1 h1
      go_enter Tryz.func120, Tryz.ntmps120
      go_wp2_with fail
      refine (H2.out _).mono ?_
      rintro e w1 ⟨rfl, rfl⟩
      go_wp2
      go_ret
      exact ⟨⟨_, rfl⟩, Below.refl _ _⟩
end Go.Proofs.YtpfmdhcmhcoddaaGreatDoor
/- The calls of a client that is nil. -/
namespace Go.Proofs.YtpfmdhcmhcoddaaGreatDoor
open Go.RowKit Go.Shelf Go.Lib
attribute [local go_sem] Oper.semAt_some

theorem HasCells.below {W W' : World} {q B : Nat} {cs : List Value} {t : TypeId} (h : HasCells W q cs t) (hb : Below B W W') (hq : q < B) : HasCells W' q cs t := (hb.block q hq).trans h
theorem HasCells.alloc {W : World} {q : Nat} {cs : List Value} {t : TypeId} (h : HasCells W q cs t) (o : Obj) : HasCells (W.alloc o) q cs t := h.below ((Below.refl _ _).alloc (Nat.le_refl _) _) h.lt
theorem below_upon {B q : Nat} {w W W' : World} (h : Below B w W) (hu : Upon q W W') (hq : B ≤ q) : Below B w W' :=
  ⟨hu.os.trans h.os, hu.tape.trans h.tape, hu.output.trans h.output, by rw [hu.size]; exact h.size, fun j hj => (hu.block j (by omega)).trans (h.block j hj)⟩
theorem results_cells3 {fn : Func} {p u v : Tmp} {ty : TypeId} (h : fn.results = #[.cell p ty, .tmp u, .tmp v]) (tmps : Array Value) (w : World) (g : Nat) (cs : List Value) (d : TypeDesc) (hp : tmps.getD p undef = .pointer (some ⟨g, 0, none⟩)) (hc : w.rangeAt g 0 cs)
    (hu : Tryz.prog.underlying ty = some d) (hd : d.isRow = true) (hi : (Tryz.prog.info? ty).map (·.size) = some cs.length) : (results fn tmps).run Tryz.prog w = .ok (.tuple #[.agg cs.toArray, tmps.getD u undef, tmps.getD v undef]) w := by
  have hp' : tmps[p]?.getD undef = .pointer (some ⟨g, 0, none⟩) := by simpa using hp
  simp [results, h, hp', asAddr, run_loadVar_mid w g 0 ty cs d hc hu hd hi]
def storeZ : List Value := [.int .u64 0, .int .u64 0, .string ⟨#[]⟩, .string ⟨#[]⟩, .string ⟨#[]⟩, .string ⟨#[]⟩, .string ⟨#[]⟩, .int .u64 0, .slice none 0 0, .int .u64 0, .int .u64 0, .string ⟨#[]⟩, .string ⟨#[]⟩, .string ⟨#[]⟩, .string ⟨#[]⟩, .string ⟨#[]⟩, .int .u64 0, .slice none 0 0, .slice none 0 0, .string ⟨#[]⟩, .slice none 0 0, .string ⟨#[]⟩, .int .u64 0, .int .u64 0, .string ⟨#[]⟩, .string ⟨#[]⟩, .string ⟨#[]⟩, .string ⟨#[]⟩, .string ⟨#[]⟩, .int .u64 0, .slice none 0 0, .slice none 0 0, .string ⟨#[]⟩, .slice none 0 0, .int .u64 0, .int .u64 0, .string ⟨#[]⟩, .string ⟨#[]⟩, .string ⟨#[]⟩, .string ⟨#[]⟩, .string ⟨#[]⟩, .int .u64 0, .slice none 0 0, .slice none 0 0, .int .u64 0, .string ⟨#[]⟩, .int .u64 0, .bool false, .int .i64 0, .int .i64 0, .bool false]
theorem infostoreZ : (Tryz.prog.info? 46).map (·.size) = some 51 := by kernel_rfl
theorem storeZ_one : storeZ.toArray.all (·.oneCell') = true := all_oneCell_toArray (fun v hv => (by decide : ∀ v ∈ storeZ, v.oneCell' = true) v hv)
def execZ : List Value := [.string ⟨#[]⟩, .string ⟨#[]⟩, .int .u64 0]
theorem infoexecZ : (Tryz.prog.info? 38).map (·.size) = some 3 := by kernel_rfl
theorem execZ_one : execZ.toArray.all (·.oneCell') = true := all_oneCell_toArray (fun v hv => (by decide : ∀ v ∈ execZ, v.oneCell' = true) v hv)
def receiptZ : List Value := [.bool false, .int .u64 0, .slice none 0 0]
theorem inforeceiptZ : (Tryz.prog.info? 69).map (·.size) = some 3 := by kernel_rfl
theorem receiptZ_one : receiptZ.toArray.all (·.oneCell') = true := all_oneCell_toArray (fun v hv => (by decide : ∀ v ∈ receiptZ, v.oneCell' = true) v hv)
def doneZ : List Value := [.int .i64 0, .string ⟨#[]⟩, .int .u64 0]
theorem infodoneZ : (Tryz.prog.info? 90).map (·.size) = some 3 := by kernel_rfl
theorem doneZ_one : doneZ.toArray.all (·.oneCell') = true := all_oneCell_toArray (fun v hv => (by decide : ∀ v ∈ doneZ, v.oneCell' = true) v hv)
def knownZ : List Value := [.string ⟨#[]⟩, .bool false, .int .u64 0, .int .u64 0, .int .u64 0, .int .u64 0, .int .u64 0, .string ⟨#[]⟩, .string ⟨#[]⟩, .bool false, .string ⟨#[]⟩, .slice none 0 0]
theorem infoknownZ : (Tryz.prog.info? 83).map (·.size) = some 12 := by kernel_rfl
theorem knownZ_one : knownZ.toArray.all (·.oneCell') = true := all_oneCell_toArray (fun v hv => (by decide : ∀ v ∈ knownZ, v.oneCell' = true) v hv)
def proofZ : List Value := [.string ⟨#[]⟩, .slice none 0 0, .bool false, .string ⟨#[]⟩, .slice none 0 0]
theorem infoproofZ : (Tryz.prog.info? 88).map (·.size) = some 5 := by kernel_rfl
theorem proofZ_one : proofZ.toArray.all (·.oneCell') = true := all_oneCell_toArray (fun v hv => (by decide : ∀ v ∈ proofZ, v.oneCell' = true) v hv)
def askZ : List Value := [.string ⟨#[]⟩, .string ⟨#[]⟩, .int .u64 0, .int .u64 0, .int .u64 0, .int .u64 0, .string ⟨#[]⟩, .int .u64 0]
theorem infoaskZ : (Tryz.prog.info? 32).map (·.size) = some 8 := by kernel_rfl
theorem askZ_one : askZ.toArray.all (·.oneCell') = true := all_oneCell_toArray (fun v hv => (by decide : ∀ v ∈ askZ, v.oneCell' = true) v hv)
set_option maxRecDepth 100000 in
set_option maxHeartbeats 3200000 in
theorem ready_nil (w : World) : Calls Tryz.prog 28 #[.pointer none] w fun e w' => e = .returned (.int .i64 1) ∧ w' = w := by
  go_enter Tryz.func28, Tryz.ntmps28
  go_wp2
  go_ret
  exact ⟨rfl, rfl⟩
set_option maxRecDepth 100000 in
set_option maxHeartbeats 3200000 in
theorem boot_nil (s : ByteArray) (w : World) : Calls Tryz.prog 12 #[.pointer none, .string s] w fun e w' => e = .returned (.int .i64 1) ∧ w' = w := by
  go_enter Tryz.func12, Tryz.ntmps12
  go_wp2_with fail
  refine (ready_nil w).mono ?_
  rintro e w1 ⟨rfl, rfl⟩
  go_wp2
  go_ret
  exact ⟨rfl, rfl⟩
set_option maxRecDepth 100000 in
set_option maxHeartbeats 3200000 in
theorem update_nil (s : ByteArray) (n : Int) (w : World) : Calls Tryz.prog 13 #[.pointer none, .string s, .int .u64 n] w fun e w' => e = .returned (.int .i64 1) ∧ w' = w := by
  go_enter Tryz.func13, Tryz.ntmps13
  go_wp2_with fail
  refine (ready_nil w).mono ?_
  rintro e w1 ⟨rfl, rfl⟩
  go_wp2
  go_ret
  exact ⟨rfl, rfl⟩
set_option maxRecDepth 100000 in
set_option maxHeartbeats 3200000 in
theorem force_nil (n : Int) (w : World) : Calls Tryz.prog 14 #[.pointer none, .int .u64 n] w fun e w' => e = .returned (.int .i64 1) ∧ w' = w := by
  go_enter Tryz.func14, Tryz.ntmps14
  go_wp2_with fail
  refine (ready_nil w).mono ?_
  rintro e w1 ⟨rfl, rfl⟩
  go_wp2
  go_ret
  exact ⟨rfl, rfl⟩
set_option maxRecDepth 100000 in
set_option maxHeartbeats 3200000 in
theorem window_nil (w : World) : Calls Tryz.prog 10 #[.pointer none] w fun e w' => e = .returned (.slice none 0 0) ∧ w' = w := by
  go_enter Tryz.func10, Tryz.ntmps10
  go_wp2_with fail
  refine (ready_nil w).mono ?_
  rintro e w1 ⟨rfl, rfl⟩
  go_wp2
  go_ret
  exact ⟨rfl, rfl⟩
set_option maxRecDepth 100000 in
set_option maxHeartbeats 3200000 in
theorem store_nil (w : World) : Calls Tryz.prog 9 #[.pointer none] w fun e w' => e = .returned (.tuple #[.agg storeZ.toArray, .int .i64 1]) ∧ Below w.heap.size w w' := by
  obtain ⟨w0, hw0⟩ : ∃ W, w.alloc (.cells storeZ.toArray 46) = W := ⟨_, rfl⟩
  have P : HasCells w0 w.heap.size storeZ 46 := by rw [← hw0]; exact HasCells.new _ _ _
  have B : Below w.heap.size w w0 := by rw [← hw0]; exact (Below.refl _ _).alloc (Nat.le_refl _) _
  have HW0 := Lib.hid hw0
  have HP := Lib.hid P
  have HB := Lib.hid B
  clear hw0 P B
  go_enter Tryz.func9, Tryz.ntmps9
  go_wp2_with fail
  rw [show w.alloc (.cells #[.int .u64 0, .int .u64 0, .string ⟨#[]⟩, .string ⟨#[]⟩, .string ⟨#[]⟩, .string ⟨#[]⟩, .string ⟨#[]⟩, .int .u64 0, .slice none 0 0, .int .u64 0, .int .u64 0, .string ⟨#[]⟩, .string ⟨#[]⟩, .string ⟨#[]⟩, .string ⟨#[]⟩, .string ⟨#[]⟩, .int .u64 0, .slice none 0 0, .slice none 0 0, .string ⟨#[]⟩, .slice none 0 0, .string ⟨#[]⟩, .int .u64 0, .int .u64 0, .string ⟨#[]⟩, .string ⟨#[]⟩, .string ⟨#[]⟩, .string ⟨#[]⟩, .string ⟨#[]⟩, .int .u64 0, .slice none 0 0, .slice none 0 0, .string ⟨#[]⟩, .slice none 0 0, .int .u64 0, .int .u64 0, .string ⟨#[]⟩, .string ⟨#[]⟩, .string ⟨#[]⟩, .string ⟨#[]⟩, .string ⟨#[]⟩, .int .u64 0, .slice none 0 0, .slice none 0 0, .int .u64 0, .string ⟨#[]⟩, .int .u64 0, .bool false, .int .i64 0, .int .i64 0, .bool false] 46) = w0 from HW0.out]
  refine (ready_nil w0).mono ?_
  rintro e w1 ⟨rfl, rfl⟩
  go_wp2_with ((with_reducible refine store_gate 46 ?_); refine wpList_store_mid rfl 46 _ _ rfl w.heap.size 0 storeZ.toArray rfl rfl (HP.out.there 0 51 (by decide)) infostoreZ storeZ_one ?_)
  have Z7 : (w1.setCells w.heap.size 0 storeZ).rangeAt w.heap.size 0 storeZ := World.rangeAt_setCells_same _ _ _ _ (HP.out.there 0 _ (by decide))
  refine bodyPost_ret (results_cells2 rfl _ _ w.heap.size storeZ _ rfl Z7 Tryz.underlying46 rfl infostoreZ) rfl ?_
  exact ⟨rfl, below_upon HB.out (Upon.sets _ _ _ _) (Nat.le_refl _)⟩
set_option maxRecDepth 100000 in
set_option maxHeartbeats 3200000 in
theorem find_nil (n : Int) (w : World) : Calls Tryz.prog 44 #[.pointer none, .int .u64 n] w fun e w' => e = .returned (.tuple #[.agg execZ.toArray, .int .i64 1]) ∧ Below w.heap.size w w' := by
  obtain ⟨w0, hw0⟩ : ∃ W, w.alloc (.cells execZ.toArray 38) = W := ⟨_, rfl⟩
  have P : HasCells w0 w.heap.size execZ 38 := by rw [← hw0]; exact HasCells.new _ _ _
  have B : Below w.heap.size w w0 := by rw [← hw0]; exact (Below.refl _ _).alloc (Nat.le_refl _) _
  have HW0 := Lib.hid hw0
  have HP := Lib.hid P
  have HB := Lib.hid B
  clear hw0 P B
  go_enter Tryz.func44, Tryz.ntmps44
  go_wp2_with fail
  rw [show w.alloc (.cells #[.string ⟨#[]⟩, .string ⟨#[]⟩, .int .u64 0] 38) = w0 from HW0.out]
  refine wp_scope_straight ?_
  go_wp2_with ((with_reducible refine store_gate 38 ?_); refine wpList_store_mid rfl 38 _ _ rfl w.heap.size 0 execZ.toArray rfl rfl (HP.out.there 0 3 (by decide)) infoexecZ execZ_one ?_)
  have Z7 : (w0.setCells w.heap.size 0 execZ).rangeAt w.heap.size 0 execZ := World.rangeAt_setCells_same _ _ _ _ (HP.out.there 0 _ (by decide))
  simp only [Exit.noGoto]
  refine bodyPost_ret (results_cells2 rfl _ _ w.heap.size execZ _ rfl Z7 Tryz.underlying38 rfl infoexecZ) rfl ?_
  exact ⟨rfl, below_upon HB.out (Upon.sets _ _ _ _) (Nat.le_refl _)⟩
set_option maxRecDepth 100000 in
set_option maxHeartbeats 3200000 in
theorem account_nil (n : Int) (w : World) : Calls Tryz.prog 26 #[.pointer none, .int .u64 n, .agg #[.string ⟨#[]⟩, .slice none 0 0, .bool false, .string ⟨#[]⟩, .slice none 0 0]] w fun e w' => e = .returned (.tuple #[.agg knownZ.toArray, .int .i64 1]) ∧ Below w.heap.size w w' := by
  obtain ⟨w0, hw0⟩ : ∃ W, (w.alloc (.cells proofZ.toArray 88)).alloc (.cells knownZ.toArray 83) = W := ⟨_, rfl⟩
  have P : HasCells w0 (w.heap.size + 1) knownZ 83 := by
    rw [← hw0]
    have := HasCells.new (w.alloc (.cells proofZ.toArray 88)) knownZ 83
    rwa [World.size_alloc] at this
  have B : Below w.heap.size w w0 := by rw [← hw0]; exact ((Below.refl _ _).alloc (Nat.le_refl _) _).alloc (by simp) _
  have HW0 := Lib.hid hw0
  have HP := Lib.hid P
  have HB := Lib.hid B
  clear hw0 P B
  go_enter Tryz.func26, Tryz.ntmps26
  go_wp2_with fail
  rw [show (w.alloc (.cells #[.string ⟨#[]⟩, .slice none 0 0, .bool false, .string ⟨#[]⟩, .slice none 0 0] 88)).alloc (.cells #[.string ⟨#[]⟩, .bool false, .int .u64 0, .int .u64 0, .int .u64 0, .int .u64 0, .int .u64 0, .string ⟨#[]⟩, .string ⟨#[]⟩, .bool false, .string ⟨#[]⟩, .slice none 0 0] 83) = w0 from HW0.out]
  refine (find_nil n w0).mono ?_
  rintro e w1 ⟨rfl, hb1⟩
  have P1 := HP.out.below hb1 HP.out.lt
  have B1 := HB.out.trans (hb1.mono HB.out.size)
  obtain ⟨W1, hW1⟩ : ∃ W, w1.alloc (.cells execZ.toArray 38) = W := ⟨_, rfl⟩
  obtain ⟨q, hq⟩ : ∃ q, w1.heap.size = q := ⟨_, rfl⟩
  have Q1 : HasCells W1 q execZ 38 := by rw [← hW1, ← hq]; exact HasCells.new _ _ _
  have hpq : (w.heap.size + 1) < q := by rw [← hq]; exact P1.lt
  have P2 : HasCells W1 (w.heap.size + 1) knownZ 83 := by rw [← hW1]; exact P1.alloc _
  have B2 : Below w.heap.size w W1 := by rw [← hW1]; exact B1.alloc B1.size _
  have hu := Upon.sets q execZ 0 W1
  have P3 := P2.upon hu (by omega)
  have B3 := below_upon B2 hu (by omega)
  have HW1 := Lib.hid hW1
  have HQ := Lib.hid hq
  have HQ1 := Lib.hid Q1
  have HP3 := Lib.hid P3
  have HB3 := Lib.hid B3
  have HPQ := Lib.hid hpq
  clear hb1 P1 B1 hW1 hq Q1 hpq P2 B2 hu P3 B3
  go_wp2_with (first | (rw [show w1.alloc (.cells #[.string ⟨#[]⟩, .string ⟨#[]⟩, .int .u64 0] 38) = W1 from HW1.out, HQ.out]; ((with_reducible refine store_gate 38 ?_); refine wpList_store_mid rfl 38 _ _ rfl q 0 execZ.toArray rfl rfl (HQ1.out.there 0 3 (by decide)) infoexecZ execZ_one ?_)) | ((with_reducible refine store_gate 83 ?_); refine wpList_store_mid rfl 83 _ _ rfl (w.heap.size + 1) 0 knownZ.toArray rfl rfl (HP3.out.there 0 12 (by decide)) infoknownZ knownZ_one ?_))
  have Z7 : ((W1.setCells q 0 execZ).setCells (w.heap.size + 1) 0 knownZ).rangeAt (w.heap.size + 1) 0 knownZ := World.rangeAt_setCells_same _ _ _ _ (HP3.out.there 0 _ (by decide))
  refine bodyPost_ret (results_cells2 rfl _ _ (w.heap.size + 1) knownZ _ rfl Z7 Tryz.underlying83 rfl infoknownZ) rfl ?_
  exact ⟨rfl, below_upon HB3.out (Upon.sets _ _ _ _) (by omega)⟩
set_option maxRecDepth 100000 in
set_option maxHeartbeats 3200000 in
theorem receipt_nil (n m : Int) (w : World) : Calls Tryz.prog 21 #[.pointer none, .int .u64 n, .int .u64 m, .slice none 0 0] w fun e w' => e = .returned (.tuple #[.agg receiptZ.toArray, .bool false, .int .i64 1]) ∧ Below w.heap.size w w' := by
  obtain ⟨w0, hw0⟩ : ∃ W, (w).alloc (.cells receiptZ.toArray 69) = W := ⟨_, rfl⟩
  have P : HasCells w0 w.heap.size receiptZ 69 := by
    rw [← hw0]
    have := HasCells.new (w) receiptZ 69
    exact this
  have B : Below w.heap.size w w0 := by rw [← hw0]; exact (Below.refl _ _).alloc (Nat.le_refl _) _
  have HW0 := Lib.hid hw0
  have HP := Lib.hid P
  have HB := Lib.hid B
  clear hw0 P B
  go_enter Tryz.func21, Tryz.ntmps21
  go_wp2_with fail
  rw [show (w).alloc (.cells #[.bool false, .int .u64 0, .slice none 0 0] 69) = w0 from HW0.out]
  refine (find_nil n w0).mono ?_
  rintro e w1 ⟨rfl, hb1⟩
  have P1 := HP.out.below hb1 HP.out.lt
  have B1 := HB.out.trans (hb1.mono HB.out.size)
  obtain ⟨W1, hW1⟩ : ∃ W, w1.alloc (.cells execZ.toArray 38) = W := ⟨_, rfl⟩
  obtain ⟨q, hq⟩ : ∃ q, w1.heap.size = q := ⟨_, rfl⟩
  have Q1 : HasCells W1 q execZ 38 := by rw [← hW1, ← hq]; exact HasCells.new _ _ _
  have hpq : w.heap.size < q := by rw [← hq]; exact P1.lt
  have P2 : HasCells W1 w.heap.size receiptZ 69 := by rw [← hW1]; exact P1.alloc _
  have B2 : Below w.heap.size w W1 := by rw [← hW1]; exact B1.alloc B1.size _
  have hu := Upon.sets q execZ 0 W1
  have P3 := P2.upon hu (by omega)
  have B3 := below_upon B2 hu (by omega)
  have HW1 := Lib.hid hW1
  have HQ := Lib.hid hq
  have HQ1 := Lib.hid Q1
  have HP3 := Lib.hid P3
  have HB3 := Lib.hid B3
  have HPQ := Lib.hid hpq
  clear hb1 P1 B1 hW1 hq Q1 hpq P2 B2 hu P3 B3
  go_wp2_with (first | (rw [show w1.alloc (.cells #[.string ⟨#[]⟩, .string ⟨#[]⟩, .int .u64 0] 38) = W1 from HW1.out, HQ.out]; ((with_reducible refine store_gate 38 ?_); refine wpList_store_mid rfl 38 _ _ rfl q 0 execZ.toArray rfl rfl (HQ1.out.there 0 3 (by decide)) infoexecZ execZ_one ?_)) | ((with_reducible refine store_gate 69 ?_); refine wpList_store_mid rfl 69 _ _ rfl w.heap.size 0 receiptZ.toArray rfl rfl (HP3.out.there 0 3 (by decide)) inforeceiptZ receiptZ_one ?_))
  have Z7 : ((W1.setCells q 0 execZ).setCells w.heap.size 0 receiptZ).rangeAt w.heap.size 0 receiptZ := World.rangeAt_setCells_same _ _ _ _ (HP3.out.there 0 _ (by decide))
  refine bodyPost_ret (results_cells3 rfl _ _ w.heap.size receiptZ _ rfl Z7 Tryz.underlying69 rfl inforeceiptZ) rfl ?_
  exact ⟨rfl, below_upon HB3.out (Upon.sets _ _ _ _) (by omega)⟩
set_option maxRecDepth 100000 in
set_option maxHeartbeats 3200000 in
theorem ask_nil (n : Int) (w : World) : Calls Tryz.prog 27 #[.pointer none, .int .u64 n, .slice none 0 0, .agg #[.string ⟨#[]⟩, .string ⟨#[]⟩, .int .u64 0, .int .u64 0, .int .u64 0, .int .u64 0, .string ⟨#[]⟩, .int .u64 0]] w fun e w' => e = .returned (.tuple #[.agg doneZ.toArray, .slice none 0 0, .int .i64 1]) ∧ Below w.heap.size w w' := by
  obtain ⟨w0, hw0⟩ : ∃ W, (w.alloc (.cells askZ.toArray 32)).alloc (.cells doneZ.toArray 90) = W := ⟨_, rfl⟩
  have P : HasCells w0 (w.heap.size + 1) doneZ 90 := by
    rw [← hw0]
    have := HasCells.new (w.alloc (.cells askZ.toArray 32)) doneZ 90
    rwa [World.size_alloc] at this
  have B : Below w.heap.size w w0 := by rw [← hw0]; exact ((Below.refl _ _).alloc (Nat.le_refl _) _).alloc (by simp) _
  have HW0 := Lib.hid hw0
  have HP := Lib.hid P
  have HB := Lib.hid B
  clear hw0 P B
  go_enter Tryz.func27, Tryz.ntmps27
  go_wp2_with fail
  rw [show (w.alloc (.cells #[.string ⟨#[]⟩, .string ⟨#[]⟩, .int .u64 0, .int .u64 0, .int .u64 0, .int .u64 0, .string ⟨#[]⟩, .int .u64 0] 32)).alloc (.cells #[.int .i64 0, .string ⟨#[]⟩, .int .u64 0] 90) = w0 from HW0.out]
  refine (find_nil n w0).mono ?_
  rintro e w1 ⟨rfl, hb1⟩
  have P1 := HP.out.below hb1 HP.out.lt
  have B1 := HB.out.trans (hb1.mono HB.out.size)
  obtain ⟨W1, hW1⟩ : ∃ W, w1.alloc (.cells execZ.toArray 38) = W := ⟨_, rfl⟩
  obtain ⟨q, hq⟩ : ∃ q, w1.heap.size = q := ⟨_, rfl⟩
  have Q1 : HasCells W1 q execZ 38 := by rw [← hW1, ← hq]; exact HasCells.new _ _ _
  have hpq : (w.heap.size + 1) < q := by rw [← hq]; exact P1.lt
  have P2 : HasCells W1 (w.heap.size + 1) doneZ 90 := by rw [← hW1]; exact P1.alloc _
  have B2 : Below w.heap.size w W1 := by rw [← hW1]; exact B1.alloc B1.size _
  have hu := Upon.sets q execZ 0 W1
  have P3 := P2.upon hu (by omega)
  have B3 := below_upon B2 hu (by omega)
  have HW1 := Lib.hid hW1
  have HQ := Lib.hid hq
  have HQ1 := Lib.hid Q1
  have HP3 := Lib.hid P3
  have HB3 := Lib.hid B3
  have HPQ := Lib.hid hpq
  clear hb1 P1 B1 hW1 hq Q1 hpq P2 B2 hu P3 B3
  go_wp2_with (first | (rw [show w1.alloc (.cells #[.string ⟨#[]⟩, .string ⟨#[]⟩, .int .u64 0] 38) = W1 from HW1.out, HQ.out]; ((with_reducible refine store_gate 38 ?_); refine wpList_store_mid rfl 38 _ _ rfl q 0 execZ.toArray rfl rfl (HQ1.out.there 0 3 (by decide)) infoexecZ execZ_one ?_)) | ((with_reducible refine store_gate 90 ?_); refine wpList_store_mid rfl 90 _ _ rfl (w.heap.size + 1) 0 doneZ.toArray rfl rfl (HP3.out.there 0 3 (by decide)) infodoneZ doneZ_one ?_))
  have Z7 : ((W1.setCells q 0 execZ).setCells (w.heap.size + 1) 0 doneZ).rangeAt (w.heap.size + 1) 0 doneZ := World.rangeAt_setCells_same _ _ _ _ (HP3.out.there 0 _ (by decide))
  refine bodyPost_ret (results_cells3 rfl _ _ (w.heap.size + 1) doneZ _ rfl Z7 Tryz.underlying90 rfl infodoneZ) rfl ?_
  exact ⟨rfl, below_upon HB3.out (Upon.sets _ _ _ _) (by omega)⟩
end Go.Proofs.YtpfmdhcmhcoddaaGreatDoor
/- The calls of a client that was not begun. -/
namespace Go.Proofs.YtpfmdhcmhcoddaaGreatDoor
open Go.RowKit Go.Shelf Go.Lib
attribute [local go_sem] Oper.semAt_some

/-- a client that was not begun -/
def Idle (w : World) (c : Nat) (r : ByteArray) : Prop := HasCells w c [.string r, .pointer none] 97
theorem Idle.below {w w' : World} {c B : Nat} {r : ByteArray} (h : Idle w c r) (hb : Below B w w') (hB : c < B) : Idle w' c r := HasCells.below h hb hB
set_option maxRecDepth 100000 in
set_option maxHeartbeats 3200000 in
theorem ready_idle {c : Nat} {r : ByteArray} {w : World} (hc : Idle w c r) : Calls Tryz.prog 28 #[.pointer (some ⟨c, 0, none⟩)] w fun e w' => e = .returned (.int .i64 220) ∧ w' = w := by
  have c1 : w.cell? ⟨c, 1, none⟩ = some (.pointer none) := HasCells.cell hc rfl
  clear hc
  go_enter Tryz.func28, Tryz.ntmps28
  go_wp2
  go_ret
  exact ⟨rfl, rfl⟩
set_option maxRecDepth 100000 in
set_option maxHeartbeats 3200000 in
theorem update_idle (s : ByteArray) (n : Int) {c : Nat} {r : ByteArray} {w : World} (hc : Idle w c r) : Calls Tryz.prog 13 #[.pointer (some ⟨c, 0, none⟩), .string s, .int .u64 n] w fun e w' => e = .returned (.int .i64 220) ∧ w' = w := by
  have HC := Lib.hid hc
  clear hc
  go_enter Tryz.func13, Tryz.ntmps13
  go_wp2_with fail
  refine (ready_idle HC.out).mono ?_
  rintro e w1 ⟨rfl, rfl⟩
  go_wp2
  go_ret
  exact ⟨rfl, rfl⟩
set_option maxRecDepth 100000 in
set_option maxHeartbeats 3200000 in
theorem force_idle (n : Int) {c : Nat} {r : ByteArray} {w : World} (hc : Idle w c r) : Calls Tryz.prog 14 #[.pointer (some ⟨c, 0, none⟩), .int .u64 n] w fun e w' => e = .returned (.int .i64 220) ∧ w' = w := by
  have HC := Lib.hid hc
  clear hc
  go_enter Tryz.func14, Tryz.ntmps14
  go_wp2_with fail
  refine (ready_idle HC.out).mono ?_
  rintro e w1 ⟨rfl, rfl⟩
  go_wp2
  go_ret
  exact ⟨rfl, rfl⟩
set_option maxRecDepth 100000 in
set_option maxHeartbeats 3200000 in
theorem window_idle {c : Nat} {r : ByteArray} {w : World} (hc : Idle w c r) : Calls Tryz.prog 10 #[.pointer (some ⟨c, 0, none⟩)] w fun e w' => e = .returned (.slice none 0 0) ∧ w' = w := by
  have HC := Lib.hid hc
  clear hc
  go_enter Tryz.func10, Tryz.ntmps10
  go_wp2_with fail
  refine (ready_idle HC.out).mono ?_
  rintro e w1 ⟨rfl, rfl⟩
  go_wp2
  go_ret
  exact ⟨rfl, rfl⟩
set_option maxRecDepth 100000 in
set_option maxHeartbeats 3200000 in
theorem store_idle {c : Nat} {r : ByteArray} {w : World} (hc : Idle w c r) : Calls Tryz.prog 9 #[.pointer (some ⟨c, 0, none⟩)] w fun e w' => e = .returned (.tuple #[.agg storeZ.toArray, .int .i64 220]) ∧ Below w.heap.size w w' := by
  obtain ⟨w0, hw0⟩ : ∃ W, w.alloc (.cells storeZ.toArray 46) = W := ⟨_, rfl⟩
  have P : HasCells w0 w.heap.size storeZ 46 := by rw [← hw0]; exact HasCells.new _ _ _
  have B : Below w.heap.size w w0 := by rw [← hw0]; exact (Below.refl _ _).alloc (Nat.le_refl _) _
  have HC := Lib.hid (hc.below B hc.lt)
  have HW0 := Lib.hid hw0
  have HP := Lib.hid P
  have HB := Lib.hid B
  clear hw0 P B hc
  go_enter Tryz.func9, Tryz.ntmps9
  go_wp2_with fail
  rw [show w.alloc (.cells #[.int .u64 0, .int .u64 0, .string ⟨#[]⟩, .string ⟨#[]⟩, .string ⟨#[]⟩, .string ⟨#[]⟩, .string ⟨#[]⟩, .int .u64 0, .slice none 0 0, .int .u64 0, .int .u64 0, .string ⟨#[]⟩, .string ⟨#[]⟩, .string ⟨#[]⟩, .string ⟨#[]⟩, .string ⟨#[]⟩, .int .u64 0, .slice none 0 0, .slice none 0 0, .string ⟨#[]⟩, .slice none 0 0, .string ⟨#[]⟩, .int .u64 0, .int .u64 0, .string ⟨#[]⟩, .string ⟨#[]⟩, .string ⟨#[]⟩, .string ⟨#[]⟩, .string ⟨#[]⟩, .int .u64 0, .slice none 0 0, .slice none 0 0, .string ⟨#[]⟩, .slice none 0 0, .int .u64 0, .int .u64 0, .string ⟨#[]⟩, .string ⟨#[]⟩, .string ⟨#[]⟩, .string ⟨#[]⟩, .string ⟨#[]⟩, .int .u64 0, .slice none 0 0, .slice none 0 0, .int .u64 0, .string ⟨#[]⟩, .int .u64 0, .bool false, .int .i64 0, .int .i64 0, .bool false] 46) = w0 from HW0.out]
  refine (ready_idle HC.out).mono ?_
  rintro e w1 ⟨rfl, rfl⟩
  go_wp2_with ((with_reducible refine store_gate 46 ?_); refine wpList_store_mid rfl 46 _ _ rfl w.heap.size 0 storeZ.toArray rfl rfl (HP.out.there 0 51 (by decide)) infostoreZ storeZ_one ?_)
  have Z7 : (w1.setCells w.heap.size 0 storeZ).rangeAt w.heap.size 0 storeZ := World.rangeAt_setCells_same _ _ _ _ (HP.out.there 0 _ (by decide))
  refine bodyPost_ret (results_cells2 rfl _ _ w.heap.size storeZ _ rfl Z7 Tryz.underlying46 rfl infostoreZ) rfl ?_
  exact ⟨rfl, below_upon HB.out (Upon.sets _ _ _ _) (Nat.le_refl _)⟩
set_option maxRecDepth 100000 in
set_option maxHeartbeats 3200000 in
theorem find_idle (n : Int) {c : Nat} {r : ByteArray} {w : World} (hc : Idle w c r) : Calls Tryz.prog 44 #[.pointer (some ⟨c, 0, none⟩), .int .u64 n] w fun e w' => e = .returned (.tuple #[.agg execZ.toArray, .int .i64 220]) ∧ Below w.heap.size w w' := by
  obtain ⟨q, hq⟩ : ∃ q, w.heap.size = q := ⟨_, rfl⟩
  obtain ⟨w0, hw0⟩ : ∃ W, (w.alloc (.cells execZ.toArray 38)).alloc (.cells execZ.toArray 38) = W := ⟨_, rfl⟩
  have P : HasCells w0 q execZ 38 := by rw [← hw0, ← hq]; exact (HasCells.new _ _ _).alloc _
  have Q : HasCells w0 (q + 1) execZ 38 := by
    rw [← hw0, ← hq]
    have := HasCells.new (w.alloc (.cells execZ.toArray 38)) execZ 38
    rwa [World.size_alloc] at this
  have B : Below q w w0 := by rw [← hw0, ← hq]; exact ((Below.refl _ _).alloc (Nat.le_refl _) _).alloc (by simp) _
  have hcq : c < q := by rw [← hq]; exact HasCells.lt hc
  have C1 := hc.below B hcq
  have P1 := P
  have Q1 := Q
  have B1 := B
  have HC := Lib.hid C1
  have HW0 := Lib.hid hw0
  have HQ := Lib.hid Q
  have HP1 := Lib.hid P1
  have HQ1 := Lib.hid Q1
  have HB := Lib.hid B1
  have HZ := Lib.hid hq
  clear hw0 P Q B hc C1 P1 Q1 B1 hcq hq
  go_enter Tryz.func44, Tryz.ntmps44
  go_wp2_with fail
  refine wp_scope_straight ?_
  go_wp2_with fail
  rw [show (w.alloc (.cells #[.string ⟨#[]⟩, .string ⟨#[]⟩, .int .u64 0] 38)).alloc (.cells #[.string ⟨#[]⟩, .string ⟨#[]⟩, .int .u64 0] 38) = w0 from HW0.out, HZ.out]
  refine wp_label ?_
  go_wp2_with fail
  refine (window_idle HC.out).mono ?_
  rintro e w2 ⟨rfl, rfl⟩
  go_wp2_with fail
  go_loopw [7, 17] (fun e i wr => e = .int .i64 220 ∧ i = .int .i64 0 ∧ wr = w2) (fun _ _ _ => 0)
  case atStart => exact ⟨rfl, rfl, rfl⟩
  case round =>
    obtain ⟨rfl, rfl, rfl⟩ := hrel
    go_wp2_with (first | ((with_reducible refine load_gate 38 ?_); refine wpList_load_mid rfl 38 _ rfl (q + 1) 0 rfl execZ _ HQ1.out.range Tryz.underlying38 rfl infoexecZ ?_) | ((with_reducible refine store_gate 38 ?_); refine wpList_store_mid rfl 38 _ _ rfl q 0 execZ.toArray rfl rfl (HP1.out.there 0 3 (by decide)) infoexecZ execZ_one ?_))
    have Z7 : (wr.setCells q 0 execZ).rangeAt q 0 execZ := World.rangeAt_setCells_same _ _ _ _ (HP1.out.there 0 _ (by decide))
    simp only [Exit.noGoto]
    refine bodyPost_ret (results_cells2 rfl _ _ q execZ _ rfl Z7 Tryz.underlying38 rfl infoexecZ) rfl ?_
    exact ⟨rfl, by rw [HZ.out]; exact below_upon HB.out (Upon.sets _ _ _ _) (Nat.le_refl _)⟩
set_option maxRecDepth 100000 in
set_option maxHeartbeats 3200000 in
theorem account_idle (n : Int) {c : Nat} {r : ByteArray} {w : World} (hc : Idle w c r) : Calls Tryz.prog 26 #[.pointer (some ⟨c, 0, none⟩), .int .u64 n, .agg #[.string ⟨#[]⟩, .slice none 0 0, .bool false, .string ⟨#[]⟩, .slice none 0 0]] w fun e w' => e = .returned (.tuple #[.agg knownZ.toArray, .int .i64 220]) ∧ Below w.heap.size w w' := by
  obtain ⟨w0, hw0⟩ : ∃ W, (w.alloc (.cells proofZ.toArray 88)).alloc (.cells knownZ.toArray 83) = W := ⟨_, rfl⟩
  have P : HasCells w0 (w.heap.size + 1) knownZ 83 := by
    rw [← hw0]
    have := HasCells.new (w.alloc (.cells proofZ.toArray 88)) knownZ 83
    rwa [World.size_alloc] at this
  have B : Below w.heap.size w w0 := by rw [← hw0]; exact ((Below.refl _ _).alloc (Nat.le_refl _) _).alloc (by simp) _
  have HC := Lib.hid (hc.below B hc.lt)
  have HW0 := Lib.hid hw0
  have HP := Lib.hid P
  have HB := Lib.hid B
  clear hw0 P B hc
  go_enter Tryz.func26, Tryz.ntmps26
  go_wp2_with fail
  rw [show (w.alloc (.cells #[.string ⟨#[]⟩, .slice none 0 0, .bool false, .string ⟨#[]⟩, .slice none 0 0] 88)).alloc (.cells #[.string ⟨#[]⟩, .bool false, .int .u64 0, .int .u64 0, .int .u64 0, .int .u64 0, .int .u64 0, .string ⟨#[]⟩, .string ⟨#[]⟩, .bool false, .string ⟨#[]⟩, .slice none 0 0] 83) = w0 from HW0.out]
  refine (find_idle n HC.out).mono ?_
  rintro e w1 ⟨rfl, hb1⟩
  have P1 := HP.out.below hb1 HP.out.lt
  have B1 := HB.out.trans (hb1.mono HB.out.size)
  obtain ⟨W1, hW1⟩ : ∃ W, w1.alloc (.cells execZ.toArray 38) = W := ⟨_, rfl⟩
  obtain ⟨q, hq⟩ : ∃ q, w1.heap.size = q := ⟨_, rfl⟩
  have Q1 : HasCells W1 q execZ 38 := by rw [← hW1, ← hq]; exact HasCells.new _ _ _
  have hpq : (w.heap.size + 1) < q := by rw [← hq]; exact P1.lt
  have P2 : HasCells W1 (w.heap.size + 1) knownZ 83 := by rw [← hW1]; exact P1.alloc _
  have B2 : Below w.heap.size w W1 := by rw [← hW1]; exact B1.alloc B1.size _
  have hu := Upon.sets q execZ 0 W1
  have P3 := P2.upon hu (by omega)
  have B3 := below_upon B2 hu (by omega)
  have HW1 := Lib.hid hW1
  have HQ := Lib.hid hq
  have HQ1 := Lib.hid Q1
  have HP3 := Lib.hid P3
  have HB3 := Lib.hid B3
  have HPQ := Lib.hid hpq
  clear hb1 P1 B1 hW1 hq Q1 hpq P2 B2 hu P3 B3
  go_wp2_with (first | (rw [show w1.alloc (.cells #[.string ⟨#[]⟩, .string ⟨#[]⟩, .int .u64 0] 38) = W1 from HW1.out, HQ.out]; ((with_reducible refine store_gate 38 ?_); refine wpList_store_mid rfl 38 _ _ rfl q 0 execZ.toArray rfl rfl (HQ1.out.there 0 3 (by decide)) infoexecZ execZ_one ?_)) | ((with_reducible refine store_gate 83 ?_); refine wpList_store_mid rfl 83 _ _ rfl (w.heap.size + 1) 0 knownZ.toArray rfl rfl (HP3.out.there 0 12 (by decide)) infoknownZ knownZ_one ?_))
  have Z7 : ((W1.setCells q 0 execZ).setCells (w.heap.size + 1) 0 knownZ).rangeAt (w.heap.size + 1) 0 knownZ := World.rangeAt_setCells_same _ _ _ _ (HP3.out.there 0 _ (by decide))
  refine bodyPost_ret (results_cells2 rfl _ _ (w.heap.size + 1) knownZ _ rfl Z7 Tryz.underlying83 rfl infoknownZ) rfl ?_
  exact ⟨rfl, below_upon HB3.out (Upon.sets _ _ _ _) (by omega)⟩
set_option maxRecDepth 100000 in
set_option maxHeartbeats 3200000 in
theorem receipt_idle (n m : Int) {c : Nat} {r : ByteArray} {w : World} (hc : Idle w c r) : Calls Tryz.prog 21 #[.pointer (some ⟨c, 0, none⟩), .int .u64 n, .int .u64 m, .slice none 0 0] w fun e w' => e = .returned (.tuple #[.agg receiptZ.toArray, .bool false, .int .i64 220]) ∧ Below w.heap.size w w' := by
  obtain ⟨w0, hw0⟩ : ∃ W, (w).alloc (.cells receiptZ.toArray 69) = W := ⟨_, rfl⟩
  have P : HasCells w0 w.heap.size receiptZ 69 := by
    rw [← hw0]
    have := HasCells.new (w) receiptZ 69
    exact this
  have B : Below w.heap.size w w0 := by rw [← hw0]; exact (Below.refl _ _).alloc (Nat.le_refl _) _
  have HC := Lib.hid (hc.below B hc.lt)
  have HW0 := Lib.hid hw0
  have HP := Lib.hid P
  have HB := Lib.hid B
  clear hw0 P B hc
  go_enter Tryz.func21, Tryz.ntmps21
  go_wp2_with fail
  rw [show (w).alloc (.cells #[.bool false, .int .u64 0, .slice none 0 0] 69) = w0 from HW0.out]
  refine (find_idle n HC.out).mono ?_
  rintro e w1 ⟨rfl, hb1⟩
  have P1 := HP.out.below hb1 HP.out.lt
  have B1 := HB.out.trans (hb1.mono HB.out.size)
  obtain ⟨W1, hW1⟩ : ∃ W, w1.alloc (.cells execZ.toArray 38) = W := ⟨_, rfl⟩
  obtain ⟨q, hq⟩ : ∃ q, w1.heap.size = q := ⟨_, rfl⟩
  have Q1 : HasCells W1 q execZ 38 := by rw [← hW1, ← hq]; exact HasCells.new _ _ _
  have hpq : w.heap.size < q := by rw [← hq]; exact P1.lt
  have P2 : HasCells W1 w.heap.size receiptZ 69 := by rw [← hW1]; exact P1.alloc _
  have B2 : Below w.heap.size w W1 := by rw [← hW1]; exact B1.alloc B1.size _
  have hu := Upon.sets q execZ 0 W1
  have P3 := P2.upon hu (by omega)
  have B3 := below_upon B2 hu (by omega)
  have HW1 := Lib.hid hW1
  have HQ := Lib.hid hq
  have HQ1 := Lib.hid Q1
  have HP3 := Lib.hid P3
  have HB3 := Lib.hid B3
  have HPQ := Lib.hid hpq
  clear hb1 P1 B1 hW1 hq Q1 hpq P2 B2 hu P3 B3
  go_wp2_with (first | (rw [show w1.alloc (.cells #[.string ⟨#[]⟩, .string ⟨#[]⟩, .int .u64 0] 38) = W1 from HW1.out, HQ.out]; ((with_reducible refine store_gate 38 ?_); refine wpList_store_mid rfl 38 _ _ rfl q 0 execZ.toArray rfl rfl (HQ1.out.there 0 3 (by decide)) infoexecZ execZ_one ?_)) | ((with_reducible refine store_gate 69 ?_); refine wpList_store_mid rfl 69 _ _ rfl w.heap.size 0 receiptZ.toArray rfl rfl (HP3.out.there 0 3 (by decide)) inforeceiptZ receiptZ_one ?_))
  have Z7 : ((W1.setCells q 0 execZ).setCells w.heap.size 0 receiptZ).rangeAt w.heap.size 0 receiptZ := World.rangeAt_setCells_same _ _ _ _ (HP3.out.there 0 _ (by decide))
  refine bodyPost_ret (results_cells3 rfl _ _ w.heap.size receiptZ _ rfl Z7 Tryz.underlying69 rfl inforeceiptZ) rfl ?_
  exact ⟨rfl, below_upon HB3.out (Upon.sets _ _ _ _) (by omega)⟩
set_option maxRecDepth 100000 in
set_option maxHeartbeats 3200000 in
theorem ask_idle (n : Int) {c : Nat} {r : ByteArray} {w : World} (hc : Idle w c r) : Calls Tryz.prog 27 #[.pointer (some ⟨c, 0, none⟩), .int .u64 n, .slice none 0 0, .agg #[.string ⟨#[]⟩, .string ⟨#[]⟩, .int .u64 0, .int .u64 0, .int .u64 0, .int .u64 0, .string ⟨#[]⟩, .int .u64 0]] w fun e w' => e = .returned (.tuple #[.agg doneZ.toArray, .slice none 0 0, .int .i64 220]) ∧ Below w.heap.size w w' := by
  obtain ⟨w0, hw0⟩ : ∃ W, (w.alloc (.cells askZ.toArray 32)).alloc (.cells doneZ.toArray 90) = W := ⟨_, rfl⟩
  have P : HasCells w0 (w.heap.size + 1) doneZ 90 := by
    rw [← hw0]
    have := HasCells.new (w.alloc (.cells askZ.toArray 32)) doneZ 90
    rwa [World.size_alloc] at this
  have B : Below w.heap.size w w0 := by rw [← hw0]; exact ((Below.refl _ _).alloc (Nat.le_refl _) _).alloc (by simp) _
  have HC := Lib.hid (hc.below B hc.lt)
  have HW0 := Lib.hid hw0
  have HP := Lib.hid P
  have HB := Lib.hid B
  clear hw0 P B hc
  go_enter Tryz.func27, Tryz.ntmps27
  go_wp2_with fail
  rw [show (w.alloc (.cells #[.string ⟨#[]⟩, .string ⟨#[]⟩, .int .u64 0, .int .u64 0, .int .u64 0, .int .u64 0, .string ⟨#[]⟩, .int .u64 0] 32)).alloc (.cells #[.int .i64 0, .string ⟨#[]⟩, .int .u64 0] 90) = w0 from HW0.out]
  refine (find_idle n HC.out).mono ?_
  rintro e w1 ⟨rfl, hb1⟩
  have P1 := HP.out.below hb1 HP.out.lt
  have B1 := HB.out.trans (hb1.mono HB.out.size)
  obtain ⟨W1, hW1⟩ : ∃ W, w1.alloc (.cells execZ.toArray 38) = W := ⟨_, rfl⟩
  obtain ⟨q, hq⟩ : ∃ q, w1.heap.size = q := ⟨_, rfl⟩
  have Q1 : HasCells W1 q execZ 38 := by rw [← hW1, ← hq]; exact HasCells.new _ _ _
  have hpq : (w.heap.size + 1) < q := by rw [← hq]; exact P1.lt
  have P2 : HasCells W1 (w.heap.size + 1) doneZ 90 := by rw [← hW1]; exact P1.alloc _
  have B2 : Below w.heap.size w W1 := by rw [← hW1]; exact B1.alloc B1.size _
  have hu := Upon.sets q execZ 0 W1
  have P3 := P2.upon hu (by omega)
  have B3 := below_upon B2 hu (by omega)
  have HW1 := Lib.hid hW1
  have HQ := Lib.hid hq
  have HQ1 := Lib.hid Q1
  have HP3 := Lib.hid P3
  have HB3 := Lib.hid B3
  have HPQ := Lib.hid hpq
  clear hb1 P1 B1 hW1 hq Q1 hpq P2 B2 hu P3 B3
  go_wp2_with (first | (rw [show w1.alloc (.cells #[.string ⟨#[]⟩, .string ⟨#[]⟩, .int .u64 0] 38) = W1 from HW1.out, HQ.out]; ((with_reducible refine store_gate 38 ?_); refine wpList_store_mid rfl 38 _ _ rfl q 0 execZ.toArray rfl rfl (HQ1.out.there 0 3 (by decide)) infoexecZ execZ_one ?_)) | ((with_reducible refine store_gate 90 ?_); refine wpList_store_mid rfl 90 _ _ rfl (w.heap.size + 1) 0 doneZ.toArray rfl rfl (HP3.out.there 0 3 (by decide)) infodoneZ doneZ_one ?_))
  have Z7 : ((W1.setCells q 0 execZ).setCells (w.heap.size + 1) 0 doneZ).rangeAt (w.heap.size + 1) 0 doneZ := World.rangeAt_setCells_same _ _ _ _ (HP3.out.there 0 _ (by decide))
  refine bodyPost_ret (results_cells3 rfl _ _ (w.heap.size + 1) doneZ _ rfl Z7 Tryz.underlying90 rfl infodoneZ) rfl ?_
  exact ⟨rfl, below_upon HB3.out (Upon.sets _ _ _ _) (by omega)⟩
end Go.Proofs.YtpfmdhcmhcoddaaGreatDoor

/- light.under, light.Begin: what they give. -/
namespace Go.Proofs.YtpfmdhcmhcoddaaGreatDoor
open Go.RowKit Go.Shelf Go.Lib
attribute [local go_sem] Oper.semAt_some

theorem wpList_load_midW {P : Program} {ops : Array Oper} {rest : List Oper} {op : Oper} {a : Act} {w : World} {Q : Exit → Act → World → Prop} (hw : Region.wanted op (yielded ops a.tmps) = true) (ty : TypeId) (x : Operand) (ho : op.op = .load ty x)
    (b o : Nat) (hx : a.eval x = .pointer (some ⟨b, o, none⟩)) (cs : List Value) (d : TypeDesc) (hc : w.rangeAt b o cs)
    (hu : P.underlying ty = some d) (hd : d.isRow = true) (hi : (P.info? ty).map (·.size) = some cs.length)
    (h : wpList P ops Q rest (a.put op.dst (.agg cs.toArray)) w) : wpList P ops Q (op :: rest) a w :=
  wpList_step fun K hK => by rw [if_pos hw]; exact wp_load_mid ty x ho b o hx cs d hc hu hd hi (hK _ _ h)
theorem step_store_mid {P : Program} {ops : Array Oper} {o : Oper} {a : Act} {w : World} {K : Act → World → Prop} {Q : Exit → Act → World → Prop} {E : Prop} (hw : Region.wanted o (yielded ops a.tmps) = true) (ty : TypeId) (x y : Operand) (ho : o.op = .store ty x y)
    (b off : Nat) (cells : Array Value) (hx : a.eval x = .pointer (some ⟨b, off, none⟩)) (hy : a.eval y = .agg cells) (ht : w.there b off cells.size) (hi : (P.info? ty).map (·.size) = some cells.size) (h1 : cells.all (·.oneCell') = true)
    (hK : K (a.put o.dst undef) (w.setCells b off cells.toList)) : if Region.wanted o (yielded ops a.tmps) = true then Oper.wp P o a w K Q else E := by
  rw [if_pos hw]
  exact wp_store_mid ty x y ho b off cells hx hy ht hi h1 hK
theorem commV_code (keys : List ByteArray) (sum : ByteArray) : ∃ (s : ByteArray) (e : Int), commV keys sum = .tuple #[.string s, .int .i64 e] ∧ (e = 0 ∨ e = 130) := by
  unfold commV
  split
  · exact ⟨_, _, rfl, .inl rfl⟩
  · exact ⟨_, _, rfl, .inr rfl⟩
/-- a part of a block's cells -/
theorem HasCells.part {W : World} {q : Nat} {cs : List Value} {t : TypeId} (h : HasCells W q cs t) (o : Nat) (cs' : List Value) (hs : (cs.drop o).take cs'.length = cs') : W.rangeAt q o cs' := fun j v hj => by
  refine h.cell ?_
  rw [← hs, List.getElem?_take] at hj
  split at hj
  · rwa [List.getElem?_drop] at hj
  · cases hj
/-- a store that begins: a Light twice, a committee -/
def storeB (L K : List Value) : List Value := L ++ (L ++ (K ++ storeZ.drop 20))
theorem storeB_one (n m : Nat) (a b c d e : ByteArray) (k : Nat) (p : Option Addr) (l cp : Nat) (pk : Option Addr) (lk ck : Nat) (su : ByteArray) (K : List Value) (hK : K = [.slice pk lk ck, .string su]) : (storeB [.int .u64 n, .int .u64 m, .string a, .string b, .string c, .string d, .string e, .int .u64 k, .slice p l cp] K).toArray.all (·.oneCell') = true := all_oneCell_toArray (fun v hv => by
  subst hK
  simp only [storeB, storeZ, List.drop_succ_cons, List.drop_zero, List.cons_append, List.nil_append, List.mem_cons, List.not_mem_nil, or_false] at hv
  rcases hv with rfl | rfl | rfl | rfl | rfl | rfl | rfl | rfl | rfl | rfl | rfl | rfl | rfl | rfl | rfl | rfl | rfl | rfl | rfl | rfl | rfl | rfl | rfl | rfl | rfl | rfl | rfl | rfl | rfl | rfl | rfl | rfl | rfl | rfl | rfl | rfl | rfl | rfl | rfl | rfl | rfl | rfl | rfl | rfl | rfl | rfl | rfl | rfl | rfl | rfl | rfl <;> rfl)
theorem infoLightZ : (Tryz.prog.info? 40).map (·.size) = some 9 := by kernel_rfl
theorem infoHeaderZ : (Tryz.prog.info? 36).map (·.size) = some 5 := by kernel_rfl
theorem infoCommZ : (Tryz.prog.info? 42).map (·.size) = some 2 := by kernel_rfl
set_option maxRecDepth 100000 in
set_option maxHeartbeats 3200000 in
theorem under_some (v : Value) (br : List ByteArray) (root leaf : ByteArray) (w : World) (hv : Strs w v br) (hK : KTab w) :
    Calls Tryz.prog 64 #[.string root, v, .int .u64 4, .string leaf] w fun x w' => (∃ u, x = .returned (.bool u)) ∧ Below w.heap.size w w' := by
  have hv' := hv
  obtain ⟨p, cp, rfl, -⟩ := hv'
  by_cases h3 : br.length = 3
  · obtain ⟨s0, s1, s2, rfl⟩ : ∃ s0 s1 s2, br = [s0, s1, s2] := by
      match br, h3 with
      | [s0, s1, s2], _ => exact ⟨s0, s1, s2, rfl⟩
    have H := Lib.hid (check3_some _ root s0 s1 s2 leaf w hv hK)
    clear hv hK h3
    go_enter Tryz.func64, Tryz.ntmps64
    go_wp2_with fail
    refine H.out.mono ?_
    rintro x w1 ⟨⟨u, rfl⟩, hb⟩
    cases u with
    | true => go_wp2; go_ret; exact ⟨⟨_, rfl⟩, hb⟩
    | false => go_wp2; go_ret; exact ⟨⟨_, rfl⟩, hb⟩
  · have hne : ((br.length : Int) == 3) = false := by simp; omega
    obtain ⟨q, hq⟩ : ∃ q, br.length = q := ⟨_, rfl⟩
    rw [hq] at hne ⊢
    clear hv hK h3 hq
    go_enter Tryz.func64, Tryz.ntmps64
    go_wp2
    go_ret
    exact ⟨⟨_, rfl⟩, Below.refl _ _⟩
set_option maxRecDepth 100000 in
set_option maxHeartbeats 12800000 in
theorem begin_walk (root : ByteArray) (n m : Nat) (a b c d e : ByteArray) (k : Nat) (p : Option Addr) (l cp : Nat) (pk : Option Addr) (lk ck : Nat) (su : ByteArray) (pb : Option Addr) (lb cb : Nat) (s1 s3 : ByteArray) (e1 e3 : Int) (hB : Bool) (w : World) (he : e3 = 0 ∨ e3 = 130)
    (h1 : ∀ W, Below w.heap.size w W → Calls Tryz.prog 61 #[.agg #[.slice pk lk ck, .string su]] W fun x w' => x = .returned (.tuple #[.string s3, .int .i64 e3]) ∧ Below W.heap.size W w')
    (h2 : ∀ W, Below w.heap.size w W → Calls Tryz.prog 62 #[.agg #[.int .u64 n, .int .u64 m, .string a, .string b, .string c]] W fun x w' => x = .returned (.tuple #[.string s1, .int .i64 e1]) ∧ Below W.heap.size W w')
    (h3 : ∀ W, Below w.heap.size w W → Calls Tryz.prog 63 #[.agg #[.int .u64 n, .int .u64 m, .string a, .string b, .string c, .string d, .string e, .int .u64 k, .slice p l cp]] W fun x w' => x = .returned (.bool hB) ∧ Below W.heap.size W w')
    (h4 : ∀ W, Below w.heap.size w W → Calls Tryz.prog 64 #[.string s3, .slice pb lb cb, .int .u64 4, .string b] W fun x w' => (∃ u, x = .returned (.bool u)) ∧ Below W.heap.size W w') :
    Calls Tryz.prog 30 #[.string root, .agg #[.int .u64 n, .int .u64 m, .string a, .string b, .string c, .string d, .string e, .int .u64 k, .slice p l cp, .slice pk lk ck, .string su, .slice pb lb cb]] w fun x w' => ((∃ er : Int, er ≠ 0 ∧ x = .returned (.tuple #[.agg storeZ.toArray, .int .i64 er])) ∨ x = .returned (.tuple #[.agg (storeB [.int .u64 n, .int .u64 m, .string a, .string b, .string c, .string d, .string e, .int .u64 k, .slice p l cp] [.slice pk lk ck, .string su]).toArray, .int .i64 0])) ∧ Below w.heap.size w w' := by
  obtain ⟨q, hq⟩ : ∃ q, w.heap.size = q := ⟨_, rfl⟩
  rw [hq] at h1 h2 h3 h4 ⊢
  obtain ⟨w0, hw0⟩ : ∃ W, (w.alloc (.cells #[.int .u64 n, .int .u64 m, .string a, .string b, .string c, .string d, .string e, .int .u64 k, .slice p l cp, .slice pk lk ck, .string su, .slice pb lb cb] 102)).alloc (.cells storeZ.toArray 46) = W := ⟨_, rfl⟩
  have P : HasCells w0 q [.int .u64 n, .int .u64 m, .string a, .string b, .string c, .string d, .string e, .int .u64 k, .slice p l cp, .slice pk lk ck, .string su, .slice pb lb cb] 102 := by rw [← hw0, ← hq]; exact (HasCells.new w [.int .u64 n, .int .u64 m, .string a, .string b, .string c, .string d, .string e, .int .u64 k, .slice p l cp, .slice pk lk ck, .string su, .slice pb lb cb] _).alloc _
  have Q : HasCells w0 (q + 1) storeZ 46 := by
    rw [← hw0, ← hq]
    have := HasCells.new (w.alloc (.cells #[.int .u64 n, .int .u64 m, .string a, .string b, .string c, .string d, .string e, .int .u64 k, .slice p l cp, .slice pk lk ck, .string su, .slice pb lb cb] 102)) storeZ 46
    rwa [World.size_alloc] at this
  have B : Below q w w0 := by rw [← hw0, ← hq]; exact ((Below.refl _ _).alloc (Nat.le_refl _) _).alloc (by simp) _
  have H1 := Lib.hid h1
  have H2 := Lib.hid h2
  have H3 := Lib.hid h3
  have H4 := Lib.hid h4
  have HW0 := Lib.hid hw0
  have HP := Lib.hid P
  have HQ := Lib.hid Q
  have HB := Lib.hid B
  have HZ := Lib.hid hq
  have c11 := P.cell (j := 11) rfl
  have c3 := P.cell (j := 3) rfl
  clear h1 h2 h3 h4 hw0 P Q B hq
  go_enter Tryz.func30, Tryz.ntmps30
  go_wp2_with fail
  rw [show (w.alloc (.cells #[.int .u64 n, .int .u64 m, .string a, .string b, .string c, .string d, .string e, .int .u64 k, .slice p l cp, .slice pk lk ck, .string su, .slice pb lb cb] 102)).alloc (.cells #[.int .u64 0, .int .u64 0, .string ⟨#[]⟩, .string ⟨#[]⟩, .string ⟨#[]⟩, .string ⟨#[]⟩, .string ⟨#[]⟩, .int .u64 0, .slice none 0 0, .int .u64 0, .int .u64 0, .string ⟨#[]⟩, .string ⟨#[]⟩, .string ⟨#[]⟩, .string ⟨#[]⟩, .string ⟨#[]⟩, .int .u64 0, .slice none 0 0, .slice none 0 0, .string ⟨#[]⟩, .slice none 0 0, .string ⟨#[]⟩, .int .u64 0, .int .u64 0, .string ⟨#[]⟩, .string ⟨#[]⟩, .string ⟨#[]⟩, .string ⟨#[]⟩, .string ⟨#[]⟩, .int .u64 0, .slice none 0 0, .slice none 0 0, .string ⟨#[]⟩, .slice none 0 0, .int .u64 0, .int .u64 0, .string ⟨#[]⟩, .string ⟨#[]⟩, .string ⟨#[]⟩, .string ⟨#[]⟩, .string ⟨#[]⟩, .int .u64 0, .slice none 0 0, .slice none 0 0, .int .u64 0, .string ⟨#[]⟩, .int .u64 0, .bool false, .int .i64 0, .int .i64 0, .bool false] 46) = w0 from HW0.out, HZ.out]
  go_wp2_with ((with_reducible refine load_gate 42 ?_); refine wpList_load_midW (by rfl) 42 _ rfl q 9 rfl [.slice pk lk ck, .string su] _ (HP.out.part 9 _ rfl) Tryz.underlying42 rfl infoCommZ ?_)
  refine (H1.out _ HB.out).mono ?_
  rintro x w1 ⟨rfl, hb1⟩
  have P' := HP.out.below hb1 HP.out.lt
  have Q' := HQ.out.below hb1 HQ.out.lt
  have B' := HB.out.trans (hb1.mono (by have := HB.out.size; have := HZ.out; omega))
  clear HP HQ HB hb1 c11 c3
  have HP := Lib.hid P'
  have HQ := Lib.hid Q'
  have HB := Lib.hid B'
  have c11 := HP.out.cell (j := 11) rfl
  have c3 := HP.out.cell (j := 3) rfl
  clear P' Q' B'
  go_wp2_with ((with_reducible refine load_gate 36 ?_); refine wpList_load_midW (by rfl) 36 _ rfl q 0 rfl [.int .u64 n, .int .u64 m, .string a, .string b, .string c] _ (HP.out.part 0 _ rfl) Tryz.underlying36 rfl infoHeaderZ ?_)
  refine (H2.out _ HB.out).mono ?_
  rintro x w2 ⟨rfl, hb2⟩
  have P' := HP.out.below hb2 HP.out.lt
  have Q' := HQ.out.below hb2 HQ.out.lt
  have B' := HB.out.trans (hb2.mono (by have := HB.out.size; have := HZ.out; omega))
  clear HP HQ HB hb2 c11 c3
  have HP := Lib.hid P'
  have HQ := Lib.hid Q'
  have HB := Lib.hid B'
  have c11 := HP.out.cell (j := 11) rfl
  have c3 := HP.out.cell (j := 3) rfl
  clear P' Q' B'
  rcases he with rfl | rfl
  · go_wp2_with ((with_reducible refine load_gate 40 ?_); refine wpList_load_midW (by rfl) 40 _ rfl q 0 rfl [.int .u64 n, .int .u64 m, .string a, .string b, .string c, .string d, .string e, .int .u64 k, .slice p l cp] _ (HP.out.part 0 _ rfl) Tryz.underlying40 rfl infoLightZ ?_)
    refine (H3.out _ HB.out).mono ?_
    rintro x w3 ⟨rfl, hb3⟩
    have P' := HP.out.below hb3 HP.out.lt
    have Q' := HQ.out.below hb3 HQ.out.lt
    have B' := HB.out.trans (hb3.mono (by have := HB.out.size; have := HZ.out; omega))
    clear HP HQ HB hb3 c11 c3
    have HP := Lib.hid P'
    have HQ := Lib.hid Q'
    have HB := Lib.hid B'
    have c11 := HP.out.cell (j := 11) rfl
    have c3 := HP.out.cell (j := 3) rfl
    clear P' Q' B'
    cases hB with
    | false =>
      go_wp2_with ((with_reducible refine store_gate 46 ?_); refine wpList_store_mid rfl 46 _ _ rfl (q + 1) 0 storeZ.toArray rfl rfl (HQ.out.there 0 51 (by decide)) infostoreZ storeZ_one ?_)
      have Z7 : (w3.setCells (q + 1) 0 storeZ).rangeAt (q + 1) 0 storeZ := World.rangeAt_setCells_same _ _ _ _ (HQ.out.there 0 _ (by decide))
      refine bodyPost_ret (results_cells2 rfl _ _ (q + 1) storeZ _ rfl Z7 Tryz.underlying46 rfl infostoreZ) rfl ?_
      exact ⟨.inl ⟨_, by decide, rfl⟩, below_upon HB.out (Upon.sets _ _ _ _) (by omega)⟩
    | true =>
      by_cases hr : s1 = root
      · subst hr
        go_wp2_with fail
        refine (H4.out _ HB.out).mono ?_
        rintro x w4 ⟨⟨u, rfl⟩, hb4⟩
        have P' := HP.out.below hb4 HP.out.lt
        have Q' := HQ.out.below hb4 HQ.out.lt
        have B' := HB.out.trans (hb4.mono (by have := HB.out.size; have := HZ.out; omega))
        clear HP HQ HB hb4 c11 c3
        have HP := Lib.hid P'
        have HQ := Lib.hid Q'
        have HB := Lib.hid B'
        have c11 := HP.out.cell (j := 11) rfl
        have c3 := HP.out.cell (j := 3) rfl
        clear P' Q' B'
        cases u with
        | false =>
          go_wp2_with ((with_reducible refine store_gate 46 ?_); refine wpList_store_mid rfl 46 _ _ rfl (q + 1) 0 storeZ.toArray rfl rfl (HQ.out.there 0 51 (by decide)) infostoreZ storeZ_one ?_)
          have Z7 : (w4.setCells (q + 1) 0 storeZ).rangeAt (q + 1) 0 storeZ := World.rangeAt_setCells_same _ _ _ _ (HQ.out.there 0 _ (by decide))
          refine bodyPost_ret (results_cells2 rfl _ _ (q + 1) storeZ _ rfl Z7 Tryz.underlying46 rfl infostoreZ) rfl ?_
          exact ⟨.inl ⟨_, by decide, rfl⟩, below_upon HB.out (Upon.sets _ _ _ _) (by omega)⟩
        | true =>
          go_wp2_with (first | ((with_reducible refine load_gate 42 ?_); refine wpList_load_midW (by rfl) 42 _ rfl q 9 rfl [.slice pk lk ck, .string su] _ (HP.out.part 9 _ rfl) Tryz.underlying42 rfl infoCommZ ?_) | ((with_reducible refine load_gate 40 ?_); refine wpList_load_midW (by rfl) 40 _ rfl q 0 rfl [.int .u64 n, .int .u64 m, .string a, .string b, .string c, .string d, .string e, .int .u64 k, .slice p l cp] _ (HP.out.part 0 _ rfl) Tryz.underlying40 rfl infoLightZ ?_) | ((with_reducible refine store_gate 46 ?_); refine wpList_store_mid rfl 46 _ _ rfl (q + 1) 0 (storeB [.int .u64 n, .int .u64 m, .string a, .string b, .string c, .string d, .string e, .int .u64 k, .slice p l cp] [.slice pk lk ck, .string su]).toArray rfl rfl (HQ.out.there 0 51 (by decide)) infostoreZ (storeB_one n m a b c d e k p l cp pk lk ck su _ rfl) ?_))
          have Z7 : (w4.setCells (q + 1) 0 (storeB [.int .u64 n, .int .u64 m, .string a, .string b, .string c, .string d, .string e, .int .u64 k, .slice p l cp] [.slice pk lk ck, .string su])).rangeAt (q + 1) 0 (storeB [.int .u64 n, .int .u64 m, .string a, .string b, .string c, .string d, .string e, .int .u64 k, .slice p l cp] [.slice pk lk ck, .string su]) := World.rangeAt_setCells_same _ _ _ _ (HQ.out.there 0 _ (by exact Nat.le_refl 51))
          refine bodyPost_ret (results_cells2 rfl _ _ (q + 1) (storeB [.int .u64 n, .int .u64 m, .string a, .string b, .string c, .string d, .string e, .int .u64 k, .slice p l cp] [.slice pk lk ck, .string su]) _ rfl Z7 Tryz.underlying46 rfl infostoreZ) rfl ?_
          exact ⟨.inr rfl, below_upon HB.out (Upon.sets _ _ _ _) (by omega)⟩
      · have hr' : (s1.toList == root.toList) = false := by
          rw [beq_eq_false_iff_ne, ByteArray.toList_eq, ByteArray.toList_eq]
          exact fun h => hr (ByteArray.ext (Array.toList_inj.1 h))
        go_wp2_with ((with_reducible refine store_gate 46 ?_); refine wpList_store_mid rfl 46 _ _ rfl (q + 1) 0 storeZ.toArray rfl rfl (HQ.out.there 0 51 (by decide)) infostoreZ storeZ_one ?_)
        have Z7 : (w3.setCells (q + 1) 0 storeZ).rangeAt (q + 1) 0 storeZ := World.rangeAt_setCells_same _ _ _ _ (HQ.out.there 0 _ (by decide))
        refine bodyPost_ret (results_cells2 rfl _ _ (q + 1) storeZ _ rfl Z7 Tryz.underlying46 rfl infostoreZ) rfl ?_
        exact ⟨.inl ⟨_, by decide, rfl⟩, below_upon HB.out (Upon.sets _ _ _ _) (by omega)⟩
  · go_wp2_with ((with_reducible refine store_gate 46 ?_); refine wpList_store_mid rfl 46 _ _ rfl (q + 1) 0 storeZ.toArray rfl rfl (HQ.out.there 0 51 (by decide)) infostoreZ storeZ_one ?_)
    have Z7 : (w2.setCells (q + 1) 0 storeZ).rangeAt (q + 1) 0 storeZ := World.rangeAt_setCells_same _ _ _ _ (HQ.out.there 0 _ (by decide))
    refine bodyPost_ret (results_cells2 rfl _ _ (q + 1) storeZ _ rfl Z7 Tryz.underlying46 rfl infostoreZ) rfl ?_
    exact ⟨.inl ⟨_, by decide, rfl⟩, below_upon HB.out (Upon.sets _ _ _ _) (by omega)⟩
theorem begin_any (root : ByteArray) (n m : Nat) (a b c d e : ByteArray) (k : Nat) (p : Option Addr) (cp : Nat) (br : List ByteArray) (pk : Option Addr) (ck : Nat) (keys : List ByteArray) (su : ByteArray) (pb : Option Addr) (cb : Nat) (bb : List ByteArray) (w : World)
    (hn : n < 18446744073709551616) (hm : m < 18446744073709551616) (hk : k < 18446744073709551616)
    (ha : a.size ≤ 1048576) (hb : b.size ≤ 1048576) (hc : c.size ≤ 1048576) (hd : d.size ≤ 1048576) (he : e.size ≤ 1048576) (hv : Strs w (.slice p br.length cp) br) (hvk : Strs w (.slice pk keys.length ck) keys) (hkl : keys.length ≤ 1048576) (hvb : Strs w (.slice pb bb.length cb) bb) (hK : KTab w) :
    Calls Tryz.prog 30 #[.string root, .agg #[.int .u64 n, .int .u64 m, .string a, .string b, .string c, .string d, .string e, .int .u64 k, .slice p br.length cp, .slice pk keys.length ck, .string su, .slice pb bb.length cb]] w fun x w' => ((∃ er : Int, er ≠ 0 ∧ x = .returned (.tuple #[.agg storeZ.toArray, .int .i64 er])) ∨ x = .returned (.tuple #[.agg (storeB [.int .u64 n, .int .u64 m, .string a, .string b, .string c, .string d, .string e, .int .u64 k, .slice p br.length cp] [.slice pk keys.length ck, .string su]).toArray, .int .i64 0])) ∧ Below w.heap.size w w' := by
  have h1 := fun W (h : Below w.heap.size w W) => commRoot_any _ keys su W (hvk.below h) hkl (hK.below h)
  have h2 := fun W (h : Below w.heap.size w W) => headRoot_any n m a b c W hn hm ha hb hc (hK.below h)
  have h3 := fun W (h : Below w.heap.size w W) => holds_any n m a b c d e k _ br W hn hm hk ha hb hc hd he (hv.below h) (hK.below h)
  obtain ⟨s1, e1, g1⟩ := rootedV_form (hdrChunks n m a b c) 3
  obtain ⟨s3, e3, g3, h03⟩ := commV_code keys su
  rw [g1] at h2
  rw [g3] at h1
  exact begin_walk root n m a b c d e k p _ cp pk _ ck su pb _ cb s1 s3 e1 e3 _ w h03 h1 h2 h3 (fun W h => under_some _ bb s3 b W (hvb.below h) (hK.below h))
end Go.Proofs.YtpfmdhcmhcoddaaGreatDoor

/- The window of a client that begins: others, held.keep. -/
namespace Go.Proofs.YtpfmdhcmhcoddaaGreatDoor
open Go.RowKit Go.Shelf Go.Lib
attribute [local go_sem] Oper.semAt_some

theorem infoExecX : (Tryz.prog.info? 38).map (fun i => (i.zero, i.size, i.bytes)) = some (some (.agg #[.string ⟨#[]⟩, .string ⟨#[]⟩, .int .u64 0]), 3, 40) := by kernel_rfl
theorem wpListIn_appendX {F : Fence} {m : Nat} {ops : Array Oper} {rest : List Oper} {o : Oper} {a : Act} {w : World} {Q : Exit → Act → World → Prop} (hgd : o.guard = none) (s x : Operand)
    (ho : o.op = .call { callee := .builtin .append, args := #[s, x], argTypes := #[50, 50] })
    (base : Nat) (v : Value) (n : Nat) (cs : List Value) (hs : a.eval s = v) (hown : w.ownsRow base 38 3 v n cs)
    (ad : Addr) (c : Nat) (b d : ByteArray) (k : Int) (hx : a.eval x = .slice (some ad) 1 c) (hnews : ∀ j u, [Value.string b, .string d, .int .u64 k][j]? = some u → w.cell? (ad.add j) = some u)
    (h63 : n + 1 ≤ 1099511627776) (hbase : base ≤ w.heap.size)
    (h : ∀ v' w', w'.ownsRow base 38 3 v' (n + 1) (cs ++ [.string b, .string d, .int .u64 k]) → w.grownBy w' v.ownBlock → wpListIn F m Tryz.prog ops Q rest (a.put o.dst v') w') : wpListIn F m Tryz.prog ops Q (o :: rest) a w := by
  obtain ⟨i0, hi0, hz0, hz1, hz2⟩ := info_parts infoExecX
  refine wpListIn_append_own w hgd s x 50 ho base 38 i0 (.agg #[.string ⟨#[]⟩, .string ⟨#[]⟩, .int .u64 0]) 3 40 Tryz.underlying50 hi0 hz0 hz1 hz2 rfl (by decide) v n cs hs hown ad 1 c [.string b, .string d, .int .u64 k] hx (by rfl) hnews
    (fun u hu => by simp only [List.mem_cons, List.not_mem_nil, or_false] at hu; rcases hu with rfl | rfl | rfl <;> rfl) (by unfold maxLen; omega) (by omega) hbase ?_
  intro v' w' h1 h2 _
  exact h v' w' h1 h2
theorem wpList_appendX {ops : Array Oper} {rest : List Oper} {o : Oper} {a : Act} {w : World} {Q : Exit → Act → World → Prop} (hgd : o.guard = none) (s x : Operand)
    (ho : o.op = .call { callee := .builtin .append, args := #[s, x], argTypes := #[50, 50] })
    (base : Nat) (v : Value) (n : Nat) (cs : List Value) (hs : a.eval s = v) (hown : w.ownsRow base 38 3 v n cs)
    (ad : Addr) (c : Nat) (b d : ByteArray) (k : Int) (hx : a.eval x = .slice (some ad) 1 c) (hnews : ∀ j u, [Value.string b, .string d, .int .u64 k][j]? = some u → w.cell? (ad.add j) = some u)
    (h63 : n + 1 ≤ 1099511627776) (hbase : base ≤ w.heap.size)
    (h : ∀ v' w', w'.ownsRow base 38 3 v' (n + 1) (cs ++ [.string b, .string d, .int .u64 k]) → w.grownBy w' v.ownBlock → wpList Tryz.prog ops Q rest (a.put o.dst v') w') : wpList Tryz.prog ops Q (o :: rest) a w := by
  obtain ⟨i0, hi0, hz0, hz1, hz2⟩ := info_parts infoExecX
  obtain ⟨v', w', hrun, r1, r2, _⟩ := run_append_own_at (P := Tryz.prog) w base 50 o.type 38 i0 _ 3 40 Tryz.underlying50 hi0 hz0 hz1 hz2 rfl (by omega) v n cs hown ad 1 c [.string b, .string d, .int .u64 k] (by rfl) hnews
    (fun u hu => by simp only [List.mem_cons, List.not_mem_nil, or_false] at hu; rcases hu with rfl | rfl | rfl <;> rfl) (by unfold maxLen; omega) (by omega) hbase
  refine wpList_plain hgd fun _ hK' => ?_
  unfold Oper.wp
  simp [execOp, ho, resolve, invoke, builtin, hs, hx, hrun, Result.andThen]
  exact hK' _ _ (h _ _ r1 r2)
theorem others_any (p : Option Addr) (l c : Nat) (n : Nat) (w : World) : Calls Tryz.prog 65 #[.slice p l c, .int .u64 n] w fun e w' =>
    e = .returned (.func (.func 121) #[] #[.pointer (some ⟨w.heap.size, 0, none⟩), .pointer (some ⟨w.heap.size + 1, 0, none⟩)]) ∧ w' = (w.alloc (.cells #[.slice p l c] 50)).alloc (.cells #[.int .u64 n] 26) := by
  go_enter Tryz.func65, Tryz.ntmps65
  go_wp2
  go_ret
  exact ⟨rfl, rfl⟩
set_option maxRecDepth 100000 in
set_option maxHeartbeats 3200000 in
theorem others_none (m : Nat) (l b2 b3 : Nat) (p : Option Addr) (c : Nat) (W : World) (hc : W.cell? ⟨b2, 0, none⟩ = some (.slice p 0 c)) :
    CallsIn Fence.wide m Tryz.prog 121 #[.func (.yield l) #[] #[], .pointer (some ⟨b2, 0, none⟩), .pointer (some ⟨b3, 0, none⟩)] W fun e W' => (∃ v, e = .returned v) ∧ W' = W := by
  refine callsIn_of_wp Tryz.func121 rfl trivial ?_ rfl
  simp only [Tryz.ntmps121, List.size_toArray, List.length_cons, List.length_nil, Nat.reduceAdd, Nat.reduceSub, Array.replicate_succ, Array.replicate_zero, List.push_toArray, List.append_toArray, List.nil_append, List.cons_append]
  gi_wp2
  gi_loopw [8] (fun i wr => i = .int .i64 0 ∧ wr = W) (fun _ _ => 0)
  case atStart => exact ⟨rfl, rfl⟩
  case round =>
    obtain ⟨rfl, rfl⟩ := hrel
    gi_wp2
    go_end0
    exact ⟨⟨_, rfl⟩, rfl⟩
theorem below_two (w : World) (o1 o2 : Obj) : Below w.heap.size w ((w.alloc o1).alloc o2) := ((Below.refl _ _).alloc (Nat.le_refl _) _).alloc (by simp) _
/-- all but one block stays -/
structure But (h : Nat) (w w' : World) : Prop where
  os : w'.os = w.os
  tape : w'.tape = w.tape
  output : w'.output = w.output
  size : w.heap.size ≤ w'.heap.size
  block : ∀ j, j < w.heap.size → j ≠ h → w'.heap[j]? = w.heap[j]?
set_option maxRecDepth 100000 in
set_option maxHeartbeats 6400000 in
theorem keep_new {h : Nat} {SB : List Value} (hl : SB.length = 51) (x y : ByteArray) (k : Nat) {w : World} (hh : HasCells w h (SB ++ [.slice none 0 0]) 100) :
    Calls Tryz.prog 31 #[.pointer (some ⟨h, 0, none⟩), .agg #[.string x, .string y, .int .u64 k]] w fun e w' => (∃ v, e = .returned v) ∧ But h w w' ∧
      ∃ g, w.heap.size ≤ g ∧ HasCells w' h (SB ++ [.slice (some ⟨g, 0, none⟩) 1 1]) 100 ∧ ∀ j u, [Value.string x, .string y, .int .u64 k][j]? = some u → w'.cell? ⟨g, j, none⟩ = some u := by
  refine (callsIn_wide (n := 9)).1 ?_
  refine callsIn_of_wp_marks Tryz.func31 rfl trivial ?_ rfl
  simp only [Tryz.ntmps31, List.size_toArray, List.length_cons, List.length_nil, Nat.reduceAdd, Nat.reduceSub, Array.replicate_succ, Array.replicate_zero, List.push_toArray, List.append_toArray, List.nil_append, List.cons_append]
  have hhl := hh.lt
  gi_wp2
  obtain ⟨q, hq⟩ : ∃ q, w.heap.size = q := ⟨_, rfl⟩
  obtain ⟨w2, hw2⟩ : ∃ W, ((w.alloc (.cells #[.string x, .string y, .int .u64 k] 38)).alloc (.cells #[.slice none 0 0] 50)) = W := ⟨_, rfl⟩
  have hz2 : w2.heap.size = q + 2 := by rw [← hw2, ← hq]; simp
  have hX : HasCells w2 q [.string x, .string y, .int .u64 k] 38 := by rw [← hw2, ← hq]; exact (HasCells.new w _ _).alloc _
  have hL : Boxed w2 (q + 1) 50 (.slice none 0 0) := by
    rw [← hw2, ← hq]
    have := Boxed.new (w.alloc (.cells #[.string x, .string y, .int .u64 k] 38)) 50 (.slice none 0 0)
    rwa [World.size_alloc] at this
  have b2 : Below q w w2 := by rw [← hw2, ← hq]; exact below_two _ _ _
  have hh2 := hh.below b2 (by omega)
  rw [hw2, hq]
  clear hw2
  have HC51 := Lib.hid (show w2.drew.cell? ⟨h, 51, none⟩ = some (.slice none 0 0) from hh2.cell (by rw [List.getElem?_append_right (by omega), hl]; rfl))
  have HCK := Lib.hid (show w2.drew.cell? ⟨q, 2, none⟩ = some (.int .u64 k) from hX.cell rfl)
  have HLH := Lib.hid (show h < w2.drew.heap.size from hh2.lt)
  have HLQ := Lib.hid (show q < w2.drew.heap.size from hX.lt)
  have HH2 := Lib.hid hh2
  have HX := Lib.hid hX
  have HL := Lib.hid hL
  have HB := Lib.hid b2
  have HZ := Lib.hid hz2
  have HQ := Lib.hid hq
  have HHL := Lib.hid hhl
  have HSL := Lib.hid hl
  clear hh2 hX hL b2 hz2 hq hhl hl hh
  rename_i K0 hK0
  refine wpIn_mono (Q := Exit.then K0 (fun _ _ _ => False)) (wpIn_wide.2 ?_) (fun e a W h => by cases e <;> first | exact h | exact h.elim)
  refine wp_region_held_drew (S := (fun W => W.cell? ⟨h, 51, none⟩ = some (.slice none 0 0) ∧ W.cell? ⟨q, 2, none⟩ = some (.int .u64 k))) (by kernel_rfl) (⟨HC51.out, HCK.out⟩) (fun hHeld => ?_)
  refine wpAnyH_take (i := 0) (v := ?_) rfl (by kernel_rfl) (by kernel_rfl) (by kernel_rfl) (fun _ _ _ h => h) (.inl ⟨by rfl, ?_⟩) (by assumption) ?_
  rotate_left 1
  · intro w0 hSw
    go_simp <;> with_reducible rfl
  try simp only [Act.put, List.getElem_toArray, List.getElem_cons_zero, List.setIfInBounds_toArray, List.set_cons_zero, List.set_cons_succ]
  refine wpAnyH_take (i := 1) (v := ?_) rfl (by kernel_rfl) (by kernel_rfl) (by kernel_rfl) (fun _ _ _ h => h) (.inl ⟨by rfl, ?_⟩) (by assumption) ?_
  rotate_left 1
  · intro w0 hSw
    go_simp <;> with_reducible rfl
  try simp only [Act.put, List.getElem_toArray, List.getElem_cons_zero, List.getElem_cons_succ, List.setIfInBounds_toArray, List.set_cons_zero, List.set_cons_succ]
  refine wpAnyH_take (i := 2) (v := ?_) rfl (by kernel_rfl) (by kernel_rfl) (by kernel_rfl) (fun _ _ _ h => h) (.inl ⟨by rfl, ?_⟩) (by assumption) ?_
  rotate_left 1
  · intro w0 hSw
    go_simp <;> with_reducible rfl
  try simp only [Act.put, List.getElem_toArray, List.getElem_cons_zero, List.getElem_cons_succ, List.setIfInBounds_toArray, List.set_cons_zero, List.set_cons_succ]
  refine wpAnyH_take (i := 3) (v := ?_) rfl (by kernel_rfl) (by kernel_rfl) (by kernel_rfl) (fun _ _ _ h => h) (.inl ⟨by rfl, ?_⟩) (by assumption) ?_
  rotate_left 1
  · intro w0 hSw
    obtain ⟨z0, z1⟩ := hSw
    go_simp <;> with_reducible rfl
  try simp only [Act.put, List.getElem_toArray, List.getElem_cons_zero, List.getElem_cons_succ, List.setIfInBounds_toArray, List.set_cons_zero, List.set_cons_succ]
  refine wpAnyH_take (i := 4) (v := ?_) rfl (by kernel_rfl) (by kernel_rfl) (by kernel_rfl) (fun _ _ _ h => h) (.inl ⟨by rfl, ?_⟩) (by assumption) ?_
  rotate_left 1
  · intro w0 hSw
    go_simp <;> with_reducible rfl
  try simp only [Act.put, List.getElem_toArray, List.getElem_cons_zero, List.getElem_cons_succ, List.setIfInBounds_toArray, List.set_cons_zero, List.set_cons_succ]
  refine wpAnyH_take (i := 5) (v := ?_) rfl (by kernel_rfl) (by kernel_rfl) (by kernel_rfl) (fun _ _ _ h => h) (.inl ⟨by rfl, ?_⟩) (by assumption) ?_
  rotate_left 1
  · intro w0 hSw
    obtain ⟨z0, z1⟩ := hSw
    go_simp <;> with_reducible rfl
  try simp only [Act.put, List.getElem_toArray, List.getElem_cons_zero, List.getElem_cons_succ, List.setIfInBounds_toArray, List.set_cons_zero, List.set_cons_succ]
  refine wpAnyH_ready (rs := [6]) (by kernel_rfl) (by simp) ?_
  refine AllReadyH.cons rfl (fun K hK => ?_) AllReadyH.nil
  go_simp
  go_at_call 65
  refine (others_any _ _ _ _ _).mono ?_
  rintro e w3 ⟨rfl, rfl⟩
  refine hK.out _ _ (⟨(Below.cell (below_two _ _ _) (p := ⟨h, 51, none⟩) HLH.out).trans HC51.out, (Below.cell (below_two _ _ _) (p := ⟨q, 2, none⟩) HLQ.out).trans HCK.out⟩) (fun hHeld => ?_)
  clear hK K
  try simp only [Act.put, List.getElem_toArray, List.getElem_cons_zero, List.getElem_cons_succ, List.setIfInBounds_toArray, List.set_cons_zero, List.set_cons_succ]
  refine wpAnyH_done (by kernel_rfl) ?_ 0
  gi_wp2
  obtain ⟨w4, hw4⟩ : ∃ W, ((w2.drew.alloc (.cells #[.slice none 0 0] 50)).alloc (.cells #[.int .u64 k] 26)) = W := ⟨_, rfl⟩
  have b4 : Below w2.heap.size w2 w4 := by rw [← hw4]; exact (Below.refl _ _).drew.trans ((below_two w2.drew _ _).mono (Nat.le_refl _))
  have hc4 : w4.cell? ⟨w2.drew.heap.size, 0, none⟩ = some (.slice none 0 0) := by
    rw [← hw4]
    exact ((Boxed.new w2.drew 50 (.slice none 0 0)).alloc _).cell
  rw [hw4]
  clear hw4 HC51 HCK HLQ HLH
  refine wpIn_rangeFunc_X rfl (by omega) (gf := 121) (lb := #[.pointer (some ⟨w2.drew.heap.size, 0, none⟩), .pointer (some ⟨w2.drew.heap.size + 1, 0, none⟩)]) rfl trivial (enters_of Tryz.func121 (by kernel_rfl) rfl)
    (encs := fun _ : Unit => #[.agg #[]]) (Step := fun A B => A = B) (Good := fun _ _ _ _ => False) (Kp := fun _ _ => True) (S := fun ys => ys = []) (Sp := fun _ => False) (w0 := w4)
    (fun l' J Jx W hW hJs _ hY h0 => (others_none _ l' _ _ none 0 W ((hW.cell (p := ⟨w2.drew.heap.size, 0, none⟩) (World.block_lt_of_cell? _ _ hc4)).trans hc4)).mono (fun e W' ⟨h1, h2⟩ => ⟨h1, .inl ⟨[], rfl, by rw [h2]; exact h0⟩⟩))
    (fun _ _ => trivial) (fun _ _ _ _ _ _ _ _ => trivial) (Below.refl _ _) (fun _ => rfl) (fun A B' j o hst hj hA ho => by rw [← hst]; exact hA)
    (fun pre W => pre = [] ∧ Below w4.heap.size w4 W) (fun _ _ _ => False) (fun _ _ _ _ => False)
    ?own ?ownx1 ?ownx ?step ?stepx ⟨rfl, Below.refl _ _⟩ ?assign ?body ?done ?stop
  case own =>
    rintro pre W W' row ⟨h1, h2⟩ hg' hr
    exact ⟨h1, h2.grown hg' h2.size (fun r e => (hr r e).1)⟩
  case ownx1 => rintro c pre W W' row h1 hg' hr; exact h1.elim
  case ownx => rintro pre y a' _ W W' row h1 hg' hr; exact h1.elim
  case step => rintro pre A B' h1 rfl; exact h1
  case stepx => rintro c pre A B' h1 rfl; exact h1
  case assign => rintro l' pre y Wa W K _ _ hg _; exact hg.elim
  case body => rintro l' pre y a' W hl _ h; exact h.elim
  case stop => rintro D c pre W hD h; exact h.elim
  case done =>
    rintro D ys W hD _ ⟨-, h2⟩ hK'
    have bW : Below w2.heap.size w2 W := b4.trans (h2.mono b4.size)
    have hXW := HX.out.below bW HX.out.lt
    have hLW : Boxed W (q + 1) 50 (.slice none 0 0) := (bW.block _ HL.out.lt).trans HL.out
    have hHW := HH2.out.below bW HH2.out.lt
    have x0 := hXW.cell (j := 0) rfl
    have x1 := hXW.cell (j := 1) rfl
    have x2 := hXW.cell (j := 2) rfl
    have l0 := hLW.cell
    have l1 := hLW.frozen
    have hll := hLW.lt
    have HHW := Lib.hid hHW
    have HLW := Lib.hid hLW
    have HBW := Lib.hid (HB.out.trans (bW.mono (by have := HB.out.size; have := HQ.out; omega)))
    have HZW := Lib.hid (show q + 2 ≤ W.heap.size from by have := bW.size; have := HZ.out; omega)
    have HDW := Lib.hid (show W.heap[D]? = some (.deferred (some [])) from hK')
    have HD := Lib.hid (show q + 2 ≤ D from by have := b4.size; have := HZ.out; omega)
    clear b4 h2 hK' bW hXW hLW hHW hc4
    gi_wp2_with (gi_at_builtin; refine wpListIn_appendX rfl _ _ rfl (q + 2) _ 0 [] rfl (World.ownsRow_nil _ _ _ _) ⟨W.heap.size, 0, none⟩ 1 x y k rfl ?c0 (by omega) ?c2 ?_)
    case c2 => have := HZW.out; simp; omega
    case c0 => exact fun j u hu => by rw [addr_add']; exact cells_at W _ _ j u hu
    intro v' w5 ho5 hg5
    obtain ⟨g, cap, rfl⟩ := ownsRow_succ ho5
    have hbg : Below W.heap.size W w5 := ((Below.refl _ _).alloc (Nat.le_refl _) _).grown hg5 (by simp) (fun r e => by cases e)
    have hcap : (1 : Int) ≤ cap := by
      rcases ho5.2 with ⟨h0, _⟩ | ⟨g1, cap1, cur, e1, _, _, e2, _⟩
      · cases h0
      · cases e1; omega
    have hgl : q + 2 ≤ g ∧ g < w5.heap.size := World.ownsRow.lt ho5 g rfl
    have hgc : ∀ j u, [Value.string x, .string y, .int .u64 k][j]? = some u → w5.cell? ⟨g, j, none⟩ = some u := fun j u hu => by
      have hj : j < 3 := (List.getElem?_eq_some_iff.1 hu).1
      have := World.ownsRow.cellAt ho5 j (by omega)
      rw [this]
      exact hu
    have hLW : Boxed w5 (q + 1) 50 (.slice none 0 0) := (hbg.block _ HLW.out.lt).trans HLW.out
    have hHW := HHW.out.below hbg HHW.out.lt
    have hDW : w5.heap[D]? = some (.deferred (some [])) := (hbg.block D (Array.getElem?_eq_some_iff.1 HDW.out).1).trans HDW.out
    have l2 := hLW.cell
    have l3 := hLW.frozen
    have l4 := hLW.lt
    have hf : w5.frozen? ⟨h, 51, none⟩ = false := hHW.frozen 51
    have hhl5 := hHW.lt
    have c51 : w5.cell? ⟨h, 51, none⟩ = some (.slice none 0 0) := hHW.cell (by rw [List.getElem?_append_right (by have := HSL.out; omega), HSL.out]; rfl)
    have hmx : max (0 : Int) (-7) = 0 := by decide
    have HHW5 := Lib.hid hHW
    have HLW5 := Lib.hid hLW
    have HGL := Lib.hid hgl
    have HGC := Lib.hid hgc
    have HD5 := Lib.hid hDW
    have HBG := Lib.hid (HBW.out.trans (hbg.mono (by have := HBW.out.size; have := HQ.out; omega)))
    clear ho5 hg5 hbg hgl hgc hLW hHW hDW l0 l1 hll x0 x1 x2 HHW HLW HBW HDW
    gi_wp2
    have hgne : g ≠ D := fun e => by
      have h0 := HGC.out 0 _ rfl
      rw [World.cell?, e, HD5.out] at h0
      cases h0
    have g1 := HGL.out.1
    have g2 := HQ.out
    have g3 := HHL.out
    have g4 := HD.out
    obtain ⟨W6, hW6⟩ : ∃ W6, ((w5.setCell ⟨q + 1, 0, none⟩ (.slice (some ⟨g, 0, none⟩) 1 cap)).setCell ⟨h, 51, none⟩ (.slice (some ⟨g, 0, none⟩) 1 1)) = W6 := ⟨_, rfl⟩
    have hD6 : W6.heap[D]? = some (.deferred (some [])) := by rw [← hW6]; exact (heap_set2 (by omega)).trans ((heap_set2 (by omega)).trans HD5.out)
    have hz6 : W6.heap.size = w5.heap.size := by rw [← hW6, World.size_setCell, World.size_setCell]
    have hH6 : HasCells W6 h (SB ++ [.slice (some ⟨g, 0, none⟩) 1 1]) 100 := by
      have h1 := (HasCells.upon HHW5.out (Upon.set w5 (q + 1) 0 (.slice (some ⟨g, 0, none⟩) 1 cap)) (by omega)).set 51 (.slice (some ⟨g, 0, none⟩) 1 1)
      rw [hW6, show (SB ++ [Value.slice none 0 0]).set 51 (.slice (some ⟨g, 0, none⟩) 1 1) = SB ++ [.slice (some ⟨g, 0, none⟩) 1 1] from by rw [List.set_append_right _ _ (by have := HSL.out; omega), HSL.out]; rfl] at h1
      exact h1
    have hb6 : ∀ j, j < q → j ≠ h → W6.heap[j]? = w.heap[j]? := fun j hj hne => by rw [← hW6]; exact (heap_set2 (by omega)).trans ((heap_set2 (by omega)).trans (HBG.out.block j hj))
    have hs6 : W6.os = w.os ∧ W6.tape = w.tape ∧ W6.output = w.output := by rw [← hW6]; exact ⟨HBG.out.os, HBG.out.tape, HBG.out.output⟩
    have hc6 : ∀ j u, [Value.string x, Value.string y, .int .u64 k][j]? = some u → W6.cell? ⟨g, j, none⟩ = some u := fun j u hu => by
      rw [← hW6]
      exact (World.cell?_setCell_other _ _ _ _ (fun e => by cases e; omega)).trans ((World.cell?_setCell_other _ _ _ _ (fun e => by cases e; omega)).trans (HGC.out j u hu))
    rw [hW6]
    refine ⟨by simp, .inl ⟨_, _, rfl, run_takeDeferred hD6, ?_⟩⟩
    refine ⟨_, results_none rfl _ _ _, ⟨_, rfl⟩, ⟨hs6.1, hs6.2.1, hs6.2.2, ?_, ?_⟩, g, by omega, ?_, ?_⟩
    · show w.heap.size ≤ (W6.putObj D _).heap.size
      have := HBG.out.size
      simp
      omega
    · intro j hj hne
      exact (World.putObj_heap_other (by omega)).trans (hb6 j (by omega) hne)
    · exact (World.putObj_heap_other (by omega)).trans hH6
    · intro j u hu
      exact (World.cell?_of_block (World.putObj_heap_other (by omega))).trans (hc6 j u hu)
end Go.Proofs.YtpfmdhcmhcoddaaGreatDoor

/- Client.Boot of a client that was not begun, and of one that was; its Store, Window. -/
namespace Go.Proofs.YtpfmdhcmhcoddaaGreatDoor
open Go.RowKit Go.Shelf Go.Lib
attribute [local go_sem] Oper.semAt_some

theorem bootZ_one : bootZ.toArray.all (·.oneCell') = true := all_oneCell_toArray (fun v hv => (by decide : ∀ v ∈ bootZ, v.oneCell' = true) v hv)
theorem stashW {P : Program} {Q : Exit → Act → World → Prop} {c : Code} {a : Act} {W : World} (h : ∀ w4, w4 = W → c.wp P Q a w4) : c.wp P Q a W := h W rfl
theorem spl_full_aux (us : List Value) : ∀ (pre zs : List Value), zs.length = us.length → spl (pre ++ zs) pre.length us = pre ++ us := by
  induction us with
  | nil => intro pre zs h; rw [List.length_eq_zero_iff.1 h]; rfl
  | cons v r ih =>
    intro pre zs h
    match zs, h with
    | z :: zs, h =>
      rw [spl]
      have e : (pre ++ z :: zs).set pre.length v = (pre ++ [v]) ++ zs := by simp
      rw [e, show pre.length + 1 = (pre ++ [v]).length by simp, ih (pre ++ [v]) zs (by simpa using h)]
      simp
theorem spl_full {zs us : List Value} (h : zs.length = us.length) : spl zs 0 us = us := spl_full_aux us [] zs h
/-- a client that was begun -/
def Begun (w : World) (c : Nat) (r : ByteArray) : Prop := ∃ (h g : Nat) (SB : List Value) (x y : ByteArray) (k : Nat), SB.length = 51 ∧ SB.toArray.all (·.oneCell') = true ∧ HasCells w c [.string r, .pointer (some ⟨h, 0, none⟩)] 97 ∧ HasCells w h (SB ++ [.slice (some ⟨g, 0, none⟩) 1 1]) 100 ∧
  g < w.heap.size ∧ ∀ j u, [Value.string x, .string y, .int .u64 k][j]? = some u → w.cell? ⟨g, j, none⟩ = some u
theorem Begun.below {w w' : World} {c : Nat} {r : ByteArray} (h : Begun w c r) (hb : Below w.heap.size w w') : Begun w' c r := by
  obtain ⟨h, g, SB, x, y, k, h1, h2, h3, h4, h5, h6⟩ := h
  exact ⟨h, g, SB, x, y, k, h1, h2, h3.below hb h3.lt, h4.below hb h4.lt, Nat.lt_of_lt_of_le h5 hb.size, fun j u hu => (hb.cell (p := ⟨g, j, none⟩) h5).trans (h6 j u hu)⟩
theorem Begun.client {w : World} {c : Nat} {r : ByteArray} (h : Begun w c r) : ∃ h' : Nat, w.cell? ⟨c, 1, none⟩ = some (.pointer (some ⟨h', 0, none⟩)) := by
  obtain ⟨h, g, SB, x, y, k, h1, h2, h3, h4, h5, h6⟩ := h
  exact ⟨h, h3.cell rfl⟩
set_option maxRecDepth 100000 in
set_option maxHeartbeats 3200000 in
theorem ready_begun {c : Nat} {r : ByteArray} {w : World} (hc : Begun w c r) : Calls Tryz.prog 28 #[.pointer (some ⟨c, 0, none⟩)] w fun e w' => e = .returned (.int .i64 0) ∧ w' = w := by
  obtain ⟨h, c1⟩ := hc.client
  clear hc
  go_enter Tryz.func28, Tryz.ntmps28
  go_wp2
  go_ret
  exact ⟨rfl, rfl⟩
set_option maxRecDepth 100000 in
set_option maxHeartbeats 3200000 in
theorem boot_begun (s : ByteArray) {c : Nat} {r : ByteArray} {w : World} (hc : Begun w c r) : Calls Tryz.prog 12 #[.pointer (some ⟨c, 0, none⟩), .string s] w fun e w' => e = .returned (.int .i64 2) ∧ w' = w := by
  have HC := Lib.hid hc
  clear hc
  go_enter Tryz.func12, Tryz.ntmps12
  go_wp2_with fail
  refine (ready_begun HC.out).mono ?_
  rintro e w1 ⟨rfl, rfl⟩
  go_wp2
  go_ret
  exact ⟨rfl, rfl⟩
set_option maxRecDepth 100000 in
set_option maxHeartbeats 3200000 in
theorem window_begun {c : Nat} {r : ByteArray} {w : World} (hc : Begun w c r) : Calls Tryz.prog 10 #[.pointer (some ⟨c, 0, none⟩)] w fun e w' => (∃ (g cap : Nat), e = .returned (.slice (some ⟨g, 0, none⟩) 1 cap)) ∧ Below w.heap.size w w' := by
  have HC := Lib.hid hc
  obtain ⟨h, g, SB, x, y, k, h1, h2, h3, h4, h5, h6⟩ := hc
  have c1 := h3.cell (j := 1) rfl
  have c51 : w.cell? ⟨h, 51, none⟩ = some (.slice (some ⟨g, 0, none⟩) 1 1) := h4.cell (by rw [List.getElem?_append_right (by omega), h1]; rfl)
  have hcl := h3.lt
  have hhl := h4.lt
  have H6 := Lib.hid h6
  have H5 := Lib.hid h5
  clear h1 h2 h3 h4 h5 h6
  go_enter Tryz.func10, Tryz.ntmps10
  go_wp2_with fail
  refine (ready_begun HC.out).mono ?_
  rintro e w1 ⟨rfl, rfl⟩
  go_wp2_with (at_builtin; refine wpList_appendX rfl _ _ rfl w1.heap.size _ 0 [] rfl ?c1 ⟨g, 0, none⟩ 1 x y k rfl ?c0 (by omega) ?c2 ?_)
  case c1 => exact ⟨rfl, .inr ⟨w1.heap.size, 0, #[], rfl, Nat.le_refl _, World.alloc_heap_new w1 _, Nat.le_refl _, Nat.zero_le _, rfl, rfl⟩⟩
  case c0 =>
    intro j u hu
    rw [addr_add']
    exact (World.cell?_of_block (w := w1) (Below.heap_alloc w1 _ _ H5.out)).trans (H6.out j u hu)
  case c2 => simp
  intro v' w5 ho5 hg5
  obtain ⟨g', cap, rfl⟩ := ownsRow_succ ho5
  have hb : Below w1.heap.size w1 w5 := ((Below.refl _ _).alloc (Nat.le_refl _) _).grown hg5 (by simp) (fun r e => by cases e; exact Nat.le_refl _)
  clear ho5 hg5
  go_wp2
  go_ret
  exact ⟨⟨_, _, rfl⟩, hb⟩
set_option maxRecDepth 100000 in
set_option maxHeartbeats 3200000 in
theorem store_begun {c : Nat} {r : ByteArray} {w : World} (hc : Begun w c r) : Calls Tryz.prog 9 #[.pointer (some ⟨c, 0, none⟩)] w fun e w' => (∃ SB : List Value, SB.length = 51 ∧ SB.toArray.all (·.oneCell') = true ∧ e = .returned (.tuple #[.agg SB.toArray, .int .i64 0])) ∧ Below w.heap.size w w' := by
  obtain ⟨w0, hw0⟩ : ∃ W, w.alloc (.cells storeZ.toArray 46) = W := ⟨_, rfl⟩
  have P : HasCells w0 w.heap.size storeZ 46 := by rw [← hw0]; exact HasCells.new _ _ _
  have B : Below w.heap.size w w0 := by rw [← hw0]; exact (Below.refl _ _).alloc (Nat.le_refl _) _
  have hc0 := hc.below B
  have HC := Lib.hid hc0
  obtain ⟨h, g, SB, x, y, k, h1, h2, h3, h4, h5, h6⟩ := hc0
  have c1 := h3.cell (j := 1) rfl
  have HI := Lib.hid (show (Tryz.prog.info? 46).map (·.size) = some SB.length from by rw [h1]; exact infostoreZ)
  have HI2 := Lib.hid (show (Tryz.prog.info? 46).map (·.size) = some SB.toArray.size from by rw [show SB.toArray.size = 51 from h1]; exact infostoreZ)
  have HR := Lib.hid (show w0.rangeAt h 0 SB from fun j u hj => by
    rw [Nat.zero_add]
    refine h4.cell ?_
    rw [List.getElem?_append_left (List.getElem?_eq_some_iff.1 hj).1]
    exact hj)
  have HTH := Lib.hid (show w0.there w.heap.size 0 SB.toArray.size from by rw [show SB.toArray.size = 51 from h1]; exact P.there 0 51 (by decide))
  have HON := Lib.hid h2
  have HL := Lib.hid h1
  have HW0 := Lib.hid hw0
  have HP := Lib.hid P
  have HB := Lib.hid B
  clear hw0 P B hc h1 h2 h3 h4 h5 h6
  go_enter Tryz.func9, Tryz.ntmps9
  go_wp2_with fail
  rw [show w.alloc (.cells #[.int .u64 0, .int .u64 0, .string ⟨#[]⟩, .string ⟨#[]⟩, .string ⟨#[]⟩, .string ⟨#[]⟩, .string ⟨#[]⟩, .int .u64 0, .slice none 0 0, .int .u64 0, .int .u64 0, .string ⟨#[]⟩, .string ⟨#[]⟩, .string ⟨#[]⟩, .string ⟨#[]⟩, .string ⟨#[]⟩, .int .u64 0, .slice none 0 0, .slice none 0 0, .string ⟨#[]⟩, .slice none 0 0, .string ⟨#[]⟩, .int .u64 0, .int .u64 0, .string ⟨#[]⟩, .string ⟨#[]⟩, .string ⟨#[]⟩, .string ⟨#[]⟩, .string ⟨#[]⟩, .int .u64 0, .slice none 0 0, .slice none 0 0, .string ⟨#[]⟩, .slice none 0 0, .int .u64 0, .int .u64 0, .string ⟨#[]⟩, .string ⟨#[]⟩, .string ⟨#[]⟩, .string ⟨#[]⟩, .string ⟨#[]⟩, .int .u64 0, .slice none 0 0, .slice none 0 0, .int .u64 0, .string ⟨#[]⟩, .int .u64 0, .bool false, .int .i64 0, .int .i64 0, .bool false] 46) = w0 from HW0.out]
  refine (ready_begun HC.out).mono ?_
  rintro e w1 ⟨rfl, rfl⟩
  go_wp2_with (first | ((with_reducible refine load_gate 46 ?_); refine wpList_load_midW (by rfl) 46 _ rfl h 0 rfl SB _ HR.out Tryz.underlying46 rfl HI.out ?_) | ((with_reducible refine store_gate 46 ?_); refine wpList_store_mid rfl 46 _ _ rfl w.heap.size 0 SB.toArray rfl rfl HTH.out HI2.out HON.out ?_))
  have Z7 : (w1.setCells w.heap.size 0 SB).rangeAt w.heap.size 0 SB := World.rangeAt_setCells_same _ _ _ _ HTH.out
  refine bodyPost_ret (results_cells2 rfl _ _ w.heap.size SB _ rfl Z7 Tryz.underlying46 rfl HI.out) rfl ?_
  exact ⟨⟨SB, HL.out, HON.out, rfl⟩, below_upon HB.out (Upon.sets _ _ _ _) (Nat.le_refl _)⟩
/-- the body behind its region 9 -/
noncomputable def bootRest : Code := match Tryz.f12.body with
  | some (.seq _ (.seq _ (.seq _ (.seq _ (.seq _ r))))) => r
  | _ => .ret
/-- what Boot gives of a client that was not begun -/
def BootPost (w : World) (c : Nat) (r : ByteArray) (e : Ending) (w' : World) : Prop := ∃ er : Int, e = .returned (.int .i64 er) ∧ ((er ≠ 0 ∧ Idle w' c r ∧ Below w.heap.size w w') ∨ (er = 0 ∧ Begun w' c r ∧ But c w w'))
theorem But.of_below {w w' : World} {c : Nat} (h : Below w.heap.size w w') : But c w w' := ⟨h.os, h.tape, h.output, h.size, fun j hj _ => h.block j hj⟩
theorem But.trans {a b c : World} {g : Nat} (h : But g a b) (k : But g b c) : But g a c :=
  ⟨k.os.trans h.os, k.tape.trans h.tape, k.output.trans h.output, Nat.le_trans h.size k.size, fun j hj hne => (k.block j (Nat.lt_of_lt_of_le hj h.size) hne).trans (h.block j hj hne)⟩
set_option maxRecDepth 100000 in
set_option maxHeartbeats 12800000 in
theorem boot_bad (er : Int) (g7 : Nat) {c : Nat} {r : ByteArray} {w W : World} (hne : er ≠ 0) (hc : Idle W c r) (hb : Below w.heap.size w W) (u1 u2 u3 u4 u5 u8 u9 u10 u11 u12 u13 u14 u15 u16 u17 u18 u19 u20 u21 u22 u23 u24 u25 u26 u27 u28 u29 u30 u31 u32 u33 u34 u35 u36 u37 u38 u39 u40 u41 u42 u43 u44 u45 u46 u47 : Value) :
    bootRest.wp Tryz.prog (bodyPost Tryz.prog Tryz.f12 (BootPost w c r)) ⟨#[.pointer (some ⟨c, 0, none⟩), u1, u2, u3, u4, u5, .int .i64 er, .pointer (some ⟨g7, 0, none⟩), u8, u9, u10, u11, u12, u13, u14, u15, u16, u17, u18, u19, u20, u21, u22, u23, u24, u25, u26, u27, u28, u29, u30, u31, u32, u33, u34, u35, u36, u37, u38, u39, u40, u41, u42, u43, u44, u45, u46, u47], []⟩ W := by
  have hr : (er == 0) = false := by simpa using hne
  have HN := Lib.hid hne
  clear hne
  show Code.wp _ _ _ _ _
  dsimp only [bootRest, Tryz.f12]
  go_wp2
  go_ret
  exact ⟨er, rfl, .inl ⟨HN.out, hc, hb⟩⟩
set_option maxRecDepth 100000 in
set_option maxHeartbeats 25600000 in
theorem boot_good (n m : Nat) (a b d0 d e : ByteArray) (k : Nat) (p : Option Addr) (l cp : Nat) (pk : Option Addr) (lk ck : Nat) (su : ByteArray) (g7 : Nat) {c : Nat} {r : ByteArray} {w W : World} (hc : Idle W c r) (hb : Below w.heap.size w W) (h7 : w.heap.size ≤ g7) (hcw : c < w.heap.size) (hs : HasCells W g7 [.int .u64 n, .int .u64 m, .string a, .string b, .string d0, .string d, .string e, .int .u64 k, .slice p l cp, .int .u64 n, .int .u64 m, .string a, .string b, .string d0, .string d, .string e, .int .u64 k, .slice p l cp, .slice pk lk ck, .string su, .slice none 0 0, .string ⟨#[]⟩, .int .u64 0, .int .u64 0, .string ⟨#[]⟩, .string ⟨#[]⟩, .string ⟨#[]⟩, .string ⟨#[]⟩, .string ⟨#[]⟩, .int .u64 0, .slice none 0 0, .slice none 0 0, .string ⟨#[]⟩, .slice none 0 0, .int .u64 0, .int .u64 0, .string ⟨#[]⟩, .string ⟨#[]⟩, .string ⟨#[]⟩, .string ⟨#[]⟩, .string ⟨#[]⟩, .int .u64 0, .slice none 0 0, .slice none 0 0, .int .u64 0, .string ⟨#[]⟩, .int .u64 0, .bool false, .int .i64 0, .int .i64 0, .bool false] 46) (u1 u2 u3 u4 u5 u8 u9 u10 u11 u12 u13 u14 u15 u16 u17 u18 u19 u20 u21 u22 u23 u24 u25 u26 u27 u28 u29 u30 u31 u32 u33 u34 u35 u36 u37 u38 u39 u40 u41 u42 u43 u44 u45 u46 u47 : Value) :
    bootRest.wp Tryz.prog (bodyPost Tryz.prog Tryz.f12 (BootPost w c r)) ⟨#[.pointer (some ⟨c, 0, none⟩), u1, u2, u3, u4, u5, .int .i64 0, .pointer (some ⟨g7, 0, none⟩), u8, u9, u10, u11, u12, u13, u14, u15, u16, u17, u18, u19, u20, u21, u22, u23, u24, u25, u26, u27, u28, u29, u30, u31, u32, u33, u34, u35, u36, u37, u38, u39, u40, u41, u42, u43, u44, u45, u46, u47], []⟩ W := by
  have HC := Lib.hid hc
  have HB := Lib.hid hb
  have HS7 := Lib.hid hs
  have HCW := Lib.hid hcw
  have H7 := Lib.hid h7
  have hcl : c < W.heap.size := hc.lt
  have hcf : W.frozen? ⟨c, 1, none⟩ = false := HasCells.frozen hc 1
  have hc1 : W.cell? ⟨c, 1, none⟩ = some (.pointer none) := HasCells.cell hc rfl
  clear hc hb hs hcw h7
  show Code.wp _ _ _ _ _
  dsimp only [bootRest, Tryz.f12]
  go_wp2_with ((with_reducible refine load_gate 46 ?_); refine wpList_load_midW (by rfl) 46 _ rfl g7 0 rfl [.int .u64 n, .int .u64 m, .string a, .string b, .string d0, .string d, .string e, .int .u64 k, .slice p l cp, .int .u64 n, .int .u64 m, .string a, .string b, .string d0, .string d, .string e, .int .u64 k, .slice p l cp, .slice pk lk ck, .string su, .slice none 0 0, .string ⟨#[]⟩, .int .u64 0, .int .u64 0, .string ⟨#[]⟩, .string ⟨#[]⟩, .string ⟨#[]⟩, .string ⟨#[]⟩, .string ⟨#[]⟩, .int .u64 0, .slice none 0 0, .slice none 0 0, .string ⟨#[]⟩, .slice none 0 0, .int .u64 0, .int .u64 0, .string ⟨#[]⟩, .string ⟨#[]⟩, .string ⟨#[]⟩, .string ⟨#[]⟩, .string ⟨#[]⟩, .int .u64 0, .slice none 0 0, .slice none 0 0, .int .u64 0, .string ⟨#[]⟩, .int .u64 0, .bool false, .int .i64 0, .int .i64 0, .bool false] _ HS7.out.range Tryz.underlying46 rfl infostoreZ ?_)
  obtain ⟨h, hh⟩ : ∃ h, W.heap.size = h := ⟨_, rfl⟩
  rw [hh]
  refine stashW (fun w1 hw0 => ?_)
  have hw1 := hw0.symm
  clear hw0
  have hH1 : HasCells w1 h ([.int .u64 n, .int .u64 m, .string a, .string b, .string d0, .string d, .string e, .int .u64 k, .slice p l cp, .int .u64 n, .int .u64 m, .string a, .string b, .string d0, .string d, .string e, .int .u64 k, .slice p l cp, .slice pk lk ck, .string su, .slice none 0 0, .string ⟨#[]⟩, .int .u64 0, .int .u64 0, .string ⟨#[]⟩, .string ⟨#[]⟩, .string ⟨#[]⟩, .string ⟨#[]⟩, .string ⟨#[]⟩, .int .u64 0, .slice none 0 0, .slice none 0 0, .string ⟨#[]⟩, .slice none 0 0, .int .u64 0, .int .u64 0, .string ⟨#[]⟩, .string ⟨#[]⟩, .string ⟨#[]⟩, .string ⟨#[]⟩, .string ⟨#[]⟩, .int .u64 0, .slice none 0 0, .slice none 0 0, .int .u64 0, .string ⟨#[]⟩, .int .u64 0, .bool false, .int .i64 0, .int .i64 0, .bool false] ++ [.slice none 0 0]) 100 := by
    rw [← hw1]
    have := (show HasCells ((W.setCell ⟨c, 1, none⟩ (.pointer (some ⟨h, 0, none⟩))).alloc _) (W.setCell ⟨c, 1, none⟩ (.pointer (some ⟨h, 0, none⟩))).heap.size ([.int .u64 n, .int .u64 m, .string a, .string b, .string d0, .string d, .string e, .int .u64 k, .slice p l cp, .int .u64 n, .int .u64 m, .string a, .string b, .string d0, .string d, .string e, .int .u64 k, .slice p l cp, .slice pk lk ck, .string su, .slice none 0 0, .string ⟨#[]⟩, .int .u64 0, .int .u64 0, .string ⟨#[]⟩, .string ⟨#[]⟩, .string ⟨#[]⟩, .string ⟨#[]⟩, .string ⟨#[]⟩, .int .u64 0, .slice none 0 0, .slice none 0 0, .string ⟨#[]⟩, .slice none 0 0, .int .u64 0, .int .u64 0, .string ⟨#[]⟩, .string ⟨#[]⟩, .string ⟨#[]⟩, .string ⟨#[]⟩, .string ⟨#[]⟩, .int .u64 0, .slice none 0 0, .slice none 0 0, .int .u64 0, .string ⟨#[]⟩, .int .u64 0, .bool false, .int .i64 0, .int .i64 0, .bool false] ++ [.slice none 0 0]) 100 from HasCells.new _ _ 100)
    rw [World.size_setCell, hh] at this
    exact this
  have hC1 : HasCells w1 c [.string r, .pointer (some ⟨h, 0, none⟩)] 97 := by
    rw [← hw1]
    exact (HasCells.set HC.out 1 _).alloc _
  have hG1 : HasCells w1 g7 [.int .u64 n, .int .u64 m, .string a, .string b, .string d0, .string d, .string e, .int .u64 k, .slice p l cp, .int .u64 n, .int .u64 m, .string a, .string b, .string d0, .string d, .string e, .int .u64 k, .slice p l cp, .slice pk lk ck, .string su, .slice none 0 0, .string ⟨#[]⟩, .int .u64 0, .int .u64 0, .string ⟨#[]⟩, .string ⟨#[]⟩, .string ⟨#[]⟩, .string ⟨#[]⟩, .string ⟨#[]⟩, .int .u64 0, .slice none 0 0, .slice none 0 0, .string ⟨#[]⟩, .slice none 0 0, .int .u64 0, .int .u64 0, .string ⟨#[]⟩, .string ⟨#[]⟩, .string ⟨#[]⟩, .string ⟨#[]⟩, .string ⟨#[]⟩, .int .u64 0, .slice none 0 0, .slice none 0 0, .int .u64 0, .string ⟨#[]⟩, .int .u64 0, .bool false, .int .i64 0, .int .i64 0, .bool false] 46 := by
    rw [← hw1]
    exact (HasCells.upon HS7.out (Upon.set W c 1 (.pointer (some ⟨h, 0, none⟩))) (by have := HCW.out; have := H7.out; omega)).alloc _
  have hz1 : w1.heap.size = h + 1 := by rw [← hw1, World.size_alloc, World.size_setCell, hh]
  have hB1 : But c w w1 := by
    have hx := HB.out
    rw [← hw1]
    exact ⟨hx.os, hx.tape, hx.output, by rw [World.size_alloc, World.size_setCell]; have := hx.size; omega, fun j hj hne => (Below.heap_alloc _ _ _ (by rw [World.size_setCell]; exact Nat.lt_of_lt_of_le hj hx.size)).trans ((heap_set2 hne).trans (hx.block j hj))⟩
  have HH := Lib.hid (show HasCells w1.drew h ([.int .u64 n, .int .u64 m, .string a, .string b, .string d0, .string d, .string e, .int .u64 k, .slice p l cp, .int .u64 n, .int .u64 m, .string a, .string b, .string d0, .string d, .string e, .int .u64 k, .slice p l cp, .slice pk lk ck, .string su, .slice none 0 0, .string ⟨#[]⟩, .int .u64 0, .int .u64 0, .string ⟨#[]⟩, .string ⟨#[]⟩, .string ⟨#[]⟩, .string ⟨#[]⟩, .string ⟨#[]⟩, .int .u64 0, .slice none 0 0, .slice none 0 0, .string ⟨#[]⟩, .slice none 0 0, .int .u64 0, .int .u64 0, .string ⟨#[]⟩, .string ⟨#[]⟩, .string ⟨#[]⟩, .string ⟨#[]⟩, .string ⟨#[]⟩, .int .u64 0, .slice none 0 0, .slice none 0 0, .int .u64 0, .string ⟨#[]⟩, .int .u64 0, .bool false, .int .i64 0, .int .i64 0, .bool false] ++ [.slice none 0 0]) 100 from hH1)
  have HC1 := Lib.hid (show HasCells w1.drew c [.string r, .pointer (some ⟨h, 0, none⟩)] 97 from hC1)
  have HG1 := Lib.hid (show HasCells w1.drew g7 [.int .u64 n, .int .u64 m, .string a, .string b, .string d0, .string d, .string e, .int .u64 k, .slice p l cp, .int .u64 n, .int .u64 m, .string a, .string b, .string d0, .string d, .string e, .int .u64 k, .slice p l cp, .slice pk lk ck, .string su, .slice none 0 0, .string ⟨#[]⟩, .int .u64 0, .int .u64 0, .string ⟨#[]⟩, .string ⟨#[]⟩, .string ⟨#[]⟩, .string ⟨#[]⟩, .string ⟨#[]⟩, .int .u64 0, .slice none 0 0, .slice none 0 0, .string ⟨#[]⟩, .slice none 0 0, .int .u64 0, .int .u64 0, .string ⟨#[]⟩, .string ⟨#[]⟩, .string ⟨#[]⟩, .string ⟨#[]⟩, .string ⟨#[]⟩, .int .u64 0, .slice none 0 0, .slice none 0 0, .int .u64 0, .string ⟨#[]⟩, .int .u64 0, .bool false, .int .i64 0, .int .i64 0, .bool false] 46 from hG1)
  have HN1 := Lib.hid (show c ≠ h from by omega)
  have HN7 := Lib.hid (show g7 ≠ h from by have := HS7.out.lt; omega)
  have HB1 := Lib.hid hB1
  have HZ1 := Lib.hid hz1
  have HHS := Lib.hid (show w.heap.size ≤ h from by have := HB.out.size; omega)
  have HS := Lib.hid (fun W' (hb : Below w1.heap.size w1 W') => (show W'.cell? ⟨c, 1, none⟩ = some (.pointer (some ⟨h, 0, none⟩)) ∧ W'.cell? ⟨g7, 5, none⟩ = some (.string d) ∧ W'.cell? ⟨g7, 6, none⟩ = some (.string e) ∧ W'.cell? ⟨g7, 7, none⟩ = some (.int .u64 k) from ⟨(hC1.below hb hC1.lt).cell rfl, (hG1.below hb hG1.lt).cell rfl, (hG1.below hb hG1.lt).cell rfl, (hG1.below hb hG1.lt).cell rfl⟩))
  clear hw1 hH1 hC1 hG1 hz1 hB1 hh hcl hcf hc1
  refine wp_region_held_drew (S := (fun W => W.cell? ⟨c, 1, none⟩ = some (.pointer (some ⟨h, 0, none⟩)) ∧ W.cell? ⟨g7, 5, none⟩ = some (.string d) ∧ W.cell? ⟨g7, 6, none⟩ = some (.string e) ∧ W.cell? ⟨g7, 7, none⟩ = some (.int .u64 k))) (by kernel_rfl) (HS.out _ (Below.refl _ _).drew) (fun hHeld => ?_)
  refine wpAnyH_take (i := 0) (v := ?_) rfl (by kernel_rfl) (by kernel_rfl) (by kernel_rfl) (fun _ _ _ h => h) (.inl ⟨by rfl, ?_⟩) (by assumption) ?_
  rotate_left 1
  · intro w0 hSw
    go_simp <;> with_reducible rfl
  try simp only [Act.put, List.getElem_toArray, List.getElem_cons_zero, List.setIfInBounds_toArray, List.set_cons_zero, List.set_cons_succ]
  refine wpAnyH_take (i := 1) (v := ?_) rfl (by kernel_rfl) (by kernel_rfl) (by kernel_rfl) (fun _ _ _ h => h) (.inl ⟨by rfl, ?_⟩) (by assumption) ?_
  rotate_left 1
  · intro w0 hSw
    go_simp <;> with_reducible rfl
  try simp only [Act.put, List.getElem_toArray, List.getElem_cons_zero, List.getElem_cons_succ, List.setIfInBounds_toArray, List.set_cons_zero, List.set_cons_succ]
  refine wpAnyH_take (i := 2) (v := ?_) rfl (by kernel_rfl) (by kernel_rfl) (by kernel_rfl) (fun _ _ _ h => h) (.inl ⟨by rfl, ?_⟩) (by assumption) ?_
  rotate_left 1
  · intro w0 hSw
    go_simp <;> with_reducible rfl
  try simp only [Act.put, List.getElem_toArray, List.getElem_cons_zero, List.getElem_cons_succ, List.setIfInBounds_toArray, List.set_cons_zero, List.set_cons_succ]
  refine wpAnyH_take (i := 3) (v := ?_) rfl (by kernel_rfl) (by kernel_rfl) (by kernel_rfl) (fun _ _ _ h => h) (.inl ⟨by rfl, ?_⟩) (by assumption) ?_
  rotate_left 1
  · intro w0 hSw
    obtain ⟨z0, z1, z2, z3⟩ := hSw
    go_simp <;> with_reducible rfl
  try simp only [Act.put, List.getElem_toArray, List.getElem_cons_zero, List.getElem_cons_succ, List.setIfInBounds_toArray, List.set_cons_zero, List.set_cons_succ]
  refine wpAnyH_take (i := 4) (v := ?_) rfl (by kernel_rfl) (by kernel_rfl) (by kernel_rfl) (fun _ _ _ h => h) (.inl ⟨by rfl, ?_⟩) (by assumption) ?_
  rotate_left 1
  · intro w0 hSw
    go_simp <;> with_reducible rfl
  try simp only [Act.put, List.getElem_toArray, List.getElem_cons_zero, List.getElem_cons_succ, List.setIfInBounds_toArray, List.set_cons_zero, List.set_cons_succ]
  refine wpAnyH_take (i := 5) (v := ?_) rfl (by kernel_rfl) (by kernel_rfl) (by kernel_rfl) (fun _ _ _ h => h) (.inl ⟨by rfl, ?_⟩) (by assumption) ?_
  rotate_left 1
  · intro w0 hSw
    go_simp <;> with_reducible rfl
  try simp only [Act.put, List.getElem_toArray, List.getElem_cons_zero, List.getElem_cons_succ, List.setIfInBounds_toArray, List.set_cons_zero, List.set_cons_succ]
  refine wpAnyH_take (i := 6) (v := ?_) rfl (by kernel_rfl) (by kernel_rfl) (by kernel_rfl) (fun _ _ _ h => h) (.inl ⟨by rfl, ?_⟩) (by assumption) ?_
  rotate_left 1
  · intro w0 hSw
    obtain ⟨z0, z1, z2, z3⟩ := hSw
    go_simp <;> with_reducible rfl
  try simp only [Act.put, List.getElem_toArray, List.getElem_cons_zero, List.getElem_cons_succ, List.setIfInBounds_toArray, List.set_cons_zero, List.set_cons_succ]
  refine wpAnyH_ready (rs := [7]) (by kernel_rfl) (by simp) ?_
  refine AllReadyH.cons rfl (fun K hK => ?_) AllReadyH.nil
  go_simp
  go_at_call 31
  refine (keep_new (by rfl) d e k HH.out).mono ?_
  rintro x w3 ⟨⟨v, rfl⟩, hbut, g, hg, hk1, hk2⟩
  have hc3 := (show HasCells w3 c [.string r, .pointer (some ⟨h, 0, none⟩)] 97 from (hbut.block c HC1.out.lt HN1.out).trans HC1.out)
  have h73 := (show HasCells w3 g7 [.int .u64 n, .int .u64 m, .string a, .string b, .string d0, .string d, .string e, .int .u64 k, .slice p l cp, .int .u64 n, .int .u64 m, .string a, .string b, .string d0, .string d, .string e, .int .u64 k, .slice p l cp, .slice pk lk ck, .string su, .slice none 0 0, .string ⟨#[]⟩, .int .u64 0, .int .u64 0, .string ⟨#[]⟩, .string ⟨#[]⟩, .string ⟨#[]⟩, .string ⟨#[]⟩, .string ⟨#[]⟩, .int .u64 0, .slice none 0 0, .slice none 0 0, .string ⟨#[]⟩, .slice none 0 0, .int .u64 0, .int .u64 0, .string ⟨#[]⟩, .string ⟨#[]⟩, .string ⟨#[]⟩, .string ⟨#[]⟩, .string ⟨#[]⟩, .int .u64 0, .slice none 0 0, .slice none 0 0, .int .u64 0, .string ⟨#[]⟩, .int .u64 0, .bool false, .int .i64 0, .int .i64 0, .bool false] 46 from (hbut.block g7 HG1.out.lt HN7.out).trans HG1.out)
  refine hK.out _ _ (⟨hc3.cell rfl, h73.cell rfl, h73.cell rfl, h73.cell rfl⟩) (fun hHeld => ?_)
  clear hK K
  try simp only [Act.put, List.getElem_toArray, List.getElem_cons_zero, List.getElem_cons_succ, List.setIfInBounds_toArray, List.set_cons_zero, List.set_cons_succ]
  refine wpAnyH_done (by kernel_rfl) ?_ 0
  have hgl : g < w3.heap.size := World.block_lt_of_cell? w3 _ (hk2 0 _ rfl)
  have HFIN := Lib.hid (show Begun w3 c r ∧ But c w w3 from ⟨⟨h, g, storeB [.int .u64 n, .int .u64 m, .string a, .string b, .string d0, .string d, .string e, .int .u64 k, .slice p l cp] [.slice pk lk ck, .string su], d, e, k, rfl, storeB_one n m a b d0 d e k p l cp pk lk ck su _ rfl, hc3, hk1, hgl, hk2⟩,
    ⟨hbut.os.trans HB1.out.os, hbut.tape.trans HB1.out.tape, hbut.output.trans HB1.out.output, Nat.le_trans HB1.out.size hbut.size, fun j hj hne => (hbut.block j (Nat.lt_of_lt_of_le hj HB1.out.size) (by have := HHS.out; omega)).trans (HB1.out.block j hj hne)⟩⟩)
  clear hbut hk1 hk2 hc3 h73
  go_wp2
  go_ret
  exact ⟨0, rfl, .inr ⟨rfl, HFIN.out⟩⟩
set_option maxRecDepth 100000 in
set_option maxHeartbeats 3200000 in
theorem boot_none (s : ByteArray) {c : Nat} {r : ByteArray} {w : World} (hc : Idle w c r) (h1 : ∀ W, Calls Tryz.prog 29 #[.string s] W fun e w' => e = .returned (.tuple #[.agg bootZ.toArray, .int .i64 130]) ∧ Below W.heap.size W w') :
    Calls Tryz.prog 12 #[.pointer (some ⟨c, 0, none⟩), .string s] w fun e w' => e = .returned (.int .i64 130) ∧ Below w.heap.size w w' := by
  have HC := Lib.hid hc
  have H1 := Lib.hid h1
  clear hc h1
  go_enter Tryz.func12, Tryz.ntmps12
  go_wp2_with fail
  refine (ready_idle HC.out).mono ?_
  rintro e w1 ⟨rfl, rfl⟩
  go_wp2_with fail
  refine (H1.out w1).mono ?_
  rintro e w2 ⟨rfl, hb2⟩
  obtain ⟨w3, hw3⟩ : ∃ W, w2.alloc (.cells bootZ.toArray 102) = W := ⟨_, rfl⟩
  have P3 : HasCells w3 w2.heap.size bootZ 102 := by rw [← hw3]; exact HasCells.new _ _ _
  have b3 : Below w1.heap.size w1 w3 := by rw [← hw3]; exact hb2.alloc hb2.size _
  have HW3 := Lib.hid hw3
  have HP3 := Lib.hid P3
  have HB3 := Lib.hid b3
  have HZ := Lib.hid hb2.size
  clear hw3 P3 b3 hb2
  go_wp2_with ((with_reducible refine store_gate 102 ?_); rw [show w2.alloc (.cells #[.int .u64 0, .int .u64 0, .string ⟨#[]⟩, .string ⟨#[]⟩, .string ⟨#[]⟩, .string ⟨#[]⟩, .string ⟨#[]⟩, .int .u64 0, .slice none 0 0, .slice none 0 0, .string ⟨#[]⟩, .slice none 0 0] 102) = w3 from HW3.out]; refine wpList_store_mid rfl 102 _ _ rfl w2.heap.size 0 bootZ.toArray rfl rfl (HP3.out.there 0 12 (by decide)) infoBootR bootZ_one ?_)
  go_ret
  exact ⟨rfl, below_upon HB3.out (Upon.sets _ _ _ _) HZ.out⟩
set_option maxRecDepth 100000 in
set_option maxHeartbeats 25600000 in
theorem boot_some (s : ByteArray) (n m : Nat) (a b d0 d e : ByteArray) (k l lk lb : Nat) (su : ByteArray) {c : Nat} {r : ByteArray} {w : World} (hc : Idle w c r) (G : Option Addr → Nat → Option Addr → Nat → Option Addr → Nat → World → Prop)
    (h1 : ∀ W, Calls Tryz.prog 29 #[.string s] W fun x w' => ∃ p cp pk ck pb cb, x = .returned (.tuple #[.agg #[.int .u64 n, .int .u64 m, .string a, .string b, .string d0, .string d, .string e, .int .u64 k, .slice p l cp, .slice pk lk ck, .string su, .slice pb lb cb], .int .i64 0]) ∧ Below W.heap.size W w' ∧ G p cp pk ck pb cb w')
    (h2 : ∀ W p cp pk ck pb cb, Below w.heap.size w W → G p cp pk ck pb cb W → Calls Tryz.prog 30 #[.string r, .agg #[.int .u64 n, .int .u64 m, .string a, .string b, .string d0, .string d, .string e, .int .u64 k, .slice p l cp, .slice pk lk ck, .string su, .slice pb lb cb]] W fun x w' => (∃ (V : List Value) (er : Int), V.length = 51 ∧ V.toArray.all (·.oneCell') = true ∧ x = .returned (.tuple #[.agg V.toArray, .int .i64 er]) ∧ (er ≠ 0 ∨ er = 0 ∧ V = storeB [.int .u64 n, .int .u64 m, .string a, .string b, .string d0, .string d, .string e, .int .u64 k, .slice p l cp] [.slice pk lk ck, .string su])) ∧ Below W.heap.size W w')
    (hG : ∀ W W' p cp pk ck pb cb, G p cp pk ck pb cb W → Below W.heap.size W W' → G p cp pk ck pb cb W') :
    Calls Tryz.prog 12 #[.pointer (some ⟨c, 0, none⟩), .string s] w (BootPost w c r) := by
  have HC := Lib.hid hc
  have HCW := Lib.hid (show c < w.heap.size from hc.lt)
  have H1 := Lib.hid h1
  have H2 := Lib.hid h2
  have HG := Lib.hid hG
  clear hc h1 h2 hG
  go_enter Tryz.func12, Tryz.ntmps12
  go_wp2_with fail
  refine (ready_idle HC.out).mono ?_
  rintro e w1 ⟨rfl, rfl⟩
  go_wp2_with fail
  refine (H1.out w1).mono ?_
  rintro x w2 ⟨p, cp, pk, ck, pb, cb, rfl, hb2, hg2⟩
  obtain ⟨g5, hg5⟩ : ∃ g, w2.heap.size = g := ⟨_, rfl⟩
  obtain ⟨w3, hw3⟩ : ∃ W, w2.alloc (.cells #[.int .u64 n, .int .u64 m, .string a, .string b, .string d0, .string d, .string e, .int .u64 k, .slice p l cp, .slice pk lk ck, .string su, .slice pb lb cb] 102) = W := ⟨_, rfl⟩
  have Q3 : HasCells w3 g5 [.int .u64 n, .int .u64 m, .string a, .string b, .string d0, .string d, .string e, .int .u64 k, .slice p l cp, .slice pk lk ck, .string su, .slice pb lb cb] 102 := by rw [← hw3, ← hg5]; exact HasCells.new _ _ _
  have b23 : Below w2.heap.size w2 w3 := by rw [← hw3]; exact (Below.refl _ _).alloc (Nat.le_refl _) _
  have b3 : Below w1.heap.size w1 w3 := hb2.trans (b23.mono hb2.size)
  have HW3 := Lib.hid hw3
  have HB3 := Lib.hid b3
  have HG5 := Lib.hid hg5
  have HGW := Lib.hid (HG.out _ _ _ _ _ _ _ _ hg2 b23)
  have HS := Lib.hid (fun W (hb : Below w3.heap.size w3 W) => (show Idle W c r ∧ HasCells W g5 [.int .u64 n, .int .u64 m, .string a, .string b, .string d0, .string d, .string e, .int .u64 k, .slice p l cp, .slice pk lk ck, .string su, .slice pb lb cb] 102 from ⟨(HC.out.below b3 HCW.out).below hb ((HC.out.below b3 HCW.out).lt), Q3.below hb Q3.lt⟩))
  have HBG := Lib.hid (fun W (hb : Below w3.heap.size w3 W) => H2.out W _ _ _ _ _ _ (b3.trans (hb.mono b3.size)) (HG.out _ _ _ _ _ _ _ _ HGW.out hb))
  clear hw3 b3 hb2 Q3 b23 hg5 hg2
  go_wp2_with fail
  rw [show w2.alloc (.cells #[.int .u64 n, .int .u64 m, .string a, .string b, .string d0, .string d, .string e, .int .u64 k, .slice p l cp, .slice pk lk ck, .string su, .slice pb lb cb] 102) = w3 from HW3.out, HG5.out]
  rename_i hkk
  have hbd : Below w3.heap.size w3 w3.drew := (Below.refl _ _).drew
  refine wp_region_held_drew (S := (fun W => Idle W c r ∧ HasCells W g5 [.int .u64 n, .int .u64 m, .string a, .string b, .string d0, .string d, .string e, .int .u64 k, .slice p l cp, .slice pk lk ck, .string su, .slice pb lb cb] 102)) (by kernel_rfl) (HS.out _ (Below.refl _ _).drew) (fun hHeld => ?_)
  refine wpAnyH_take (i := 0) (v := ?_) rfl (by kernel_rfl) (by kernel_rfl) (by kernel_rfl) (fun _ _ _ h => h) (.inl ⟨by rfl, ?_⟩) (by assumption) ?_
  rotate_left 1
  · intro w0 hSw
    go_simp <;> with_reducible rfl
  try simp only [Act.put, List.getElem_toArray, List.getElem_cons_zero, List.setIfInBounds_toArray, List.set_cons_zero, List.set_cons_succ]
  refine wpAnyH_take (i := 1) (v := ?_) rfl (by kernel_rfl) (by kernel_rfl) (by kernel_rfl) (fun _ _ _ h => h) (.inl ⟨by rfl, ?_⟩) (by assumption) ?_
  rotate_left 1
  · intro w0 hSw
    go_simp <;> with_reducible rfl
  try simp only [Act.put, List.getElem_toArray, List.getElem_cons_zero, List.getElem_cons_succ, List.setIfInBounds_toArray, List.set_cons_zero, List.set_cons_succ]
  refine wpAnyH_take (i := 2) (v := ?_) rfl (by kernel_rfl) (by kernel_rfl) (by kernel_rfl) (fun _ _ _ h => h) (.inl ⟨by rfl, ?_⟩) (by assumption) ?_
  rotate_left 1
  · intro w0 hSw
    go_simp <;> with_reducible rfl
  try simp only [Act.put, List.getElem_toArray, List.getElem_cons_zero, List.getElem_cons_succ, List.setIfInBounds_toArray, List.set_cons_zero, List.set_cons_succ]
  refine wpAnyH_take (i := 3) (v := ?_) rfl (by kernel_rfl) (by kernel_rfl) (by kernel_rfl) (fun _ _ _ h => h) (.inl ⟨by rfl, ?_⟩) (by assumption) ?_
  rotate_left 1
  · intro w0 hSw
    obtain ⟨s0, s1⟩ := hSw
    have y0 := HasCells.cell s0 (j := 0) rfl
    have z0 := s1.cell (j := 0) rfl
    have z1 := s1.cell (j := 1) rfl
    have z2 := s1.cell (j := 2) rfl
    have z3 := s1.cell (j := 3) rfl
    have z4 := s1.cell (j := 4) rfl
    have z5 := s1.cell (j := 5) rfl
    have z6 := s1.cell (j := 6) rfl
    have z7 := s1.cell (j := 7) rfl
    have z8 := s1.cell (j := 8) rfl
    have z9 := s1.cell (j := 9) rfl
    have z10 := s1.cell (j := 10) rfl
    have z11 := s1.cell (j := 11) rfl
    go_simp <;> with_reducible rfl
  try simp only [Act.put, List.getElem_toArray, List.getElem_cons_zero, List.getElem_cons_succ, List.setIfInBounds_toArray, List.set_cons_zero, List.set_cons_succ]
  refine wpAnyH_take (i := 4) (v := ?_) rfl (by kernel_rfl) (by kernel_rfl) (by kernel_rfl) (fun _ _ _ h => h) (.inl ⟨by rfl, ?_⟩) (by assumption) ?_
  rotate_left 1
  · intro w0 hSw
    obtain ⟨s0, s1⟩ := hSw
    have y0 := HasCells.cell s0 (j := 0) rfl
    have z0 := s1.cell (j := 0) rfl
    have z1 := s1.cell (j := 1) rfl
    have z2 := s1.cell (j := 2) rfl
    have z3 := s1.cell (j := 3) rfl
    have z4 := s1.cell (j := 4) rfl
    have z5 := s1.cell (j := 5) rfl
    have z6 := s1.cell (j := 6) rfl
    have z7 := s1.cell (j := 7) rfl
    have z8 := s1.cell (j := 8) rfl
    have z9 := s1.cell (j := 9) rfl
    have z10 := s1.cell (j := 10) rfl
    have z11 := s1.cell (j := 11) rfl
    go_simp <;> with_reducible rfl
  try simp only [Act.put, List.getElem_toArray, List.getElem_cons_zero, List.getElem_cons_succ, List.setIfInBounds_toArray, List.set_cons_zero, List.set_cons_succ]
  refine wpAnyH_ready (rs := [5, 9]) (by kernel_rfl) (by simp) ?_
  refine AllReadyH.cons rfl (fun K hK => ?_) (AllReadyH.cons rfl (fun K hK => ?_) AllReadyH.nil)
  · go_simp
    go_at_call 30
    refine (HBG.out _ hbd).mono ?_
    rintro x w4 ⟨⟨V, er, hvl, hvo, rfl, hcase⟩, hbx⟩
    have b4 : Below w3.heap.size w3 w4 := hbd.trans (hbx.mono hbd.size)
    refine hK.out _ _ (HS.out _ b4) (fun hHeld => ?_)
    clear hK K
    try simp only [Act.put, List.getElem_toArray, List.getElem_cons_zero, List.getElem_cons_succ, List.setIfInBounds_toArray, List.set_cons_zero, List.set_cons_succ]
    refine wpAnyH_take (i := 6) (v := ?_) rfl (by kernel_rfl) (by kernel_rfl) (by kernel_rfl) (fun _ _ _ h => h) (.inl ⟨by rfl, ?_⟩) (by assumption) ?_
    rotate_left 1
    · intro w0 hSw
      go_simp <;> with_reducible rfl
    try simp only [Act.put, List.getElem_toArray, List.getElem_cons_zero, List.getElem_cons_succ, List.setIfInBounds_toArray, List.set_cons_zero, List.set_cons_succ]
    refine wpAnyH_take (i := 7) (v := ?_) rfl (by kernel_rfl) (by kernel_rfl) (by kernel_rfl) (fun _ _ _ h => h) (.inl ⟨by rfl, ?_⟩) (by assumption) ?_
    rotate_left 1
    · intro w0 hSw
      go_simp <;> with_reducible rfl
    try simp only [Act.put, List.getElem_toArray, List.getElem_cons_zero, List.getElem_cons_succ, List.setIfInBounds_toArray, List.set_cons_zero, List.set_cons_succ]
    refine wpAnyH_take (i := 8) (v := ?_) rfl (by kernel_rfl) (by kernel_rfl) (by kernel_rfl) (fun _ _ _ h => h) (.inl ⟨by rfl, ?_⟩) (by assumption) ?_
    rotate_left 1
    · intro w0 hSw
      go_simp <;> with_reducible rfl
    try simp only [Act.put, List.getElem_toArray, List.getElem_cons_zero, List.getElem_cons_succ, List.setIfInBounds_toArray, List.set_cons_zero, List.set_cons_succ]
    refine wpAnyH_ready (rs := [9]) (by kernel_rfl) (by simp) ?_
    refine AllReadyH.cons rfl (fun K hK => ?_) AllReadyH.nil
    go_simp
    obtain ⟨g7, hg7⟩ : ∃ g, w4.heap.size = g := ⟨_, rfl⟩
    obtain ⟨w5, hw5⟩ : ∃ W, w4.alloc (.cells #[.int .u64 0, .int .u64 0, .string ⟨#[]⟩, .string ⟨#[]⟩, .string ⟨#[]⟩, .string ⟨#[]⟩, .string ⟨#[]⟩, .int .u64 0, .slice none 0 0, .int .u64 0, .int .u64 0, .string ⟨#[]⟩, .string ⟨#[]⟩, .string ⟨#[]⟩, .string ⟨#[]⟩, .string ⟨#[]⟩, .int .u64 0, .slice none 0 0, .slice none 0 0, .string ⟨#[]⟩, .slice none 0 0, .string ⟨#[]⟩, .int .u64 0, .int .u64 0, .string ⟨#[]⟩, .string ⟨#[]⟩, .string ⟨#[]⟩, .string ⟨#[]⟩, .string ⟨#[]⟩, .int .u64 0, .slice none 0 0, .slice none 0 0, .string ⟨#[]⟩, .slice none 0 0, .int .u64 0, .int .u64 0, .string ⟨#[]⟩, .string ⟨#[]⟩, .string ⟨#[]⟩, .string ⟨#[]⟩, .string ⟨#[]⟩, .int .u64 0, .slice none 0 0, .slice none 0 0, .int .u64 0, .string ⟨#[]⟩, .int .u64 0, .bool false, .int .i64 0, .int .i64 0, .bool false] 46) = W := ⟨_, rfl⟩
    have z7 : HasCells w5 g7 storeZ 46 := by rw [← hw5, ← hg7]; exact HasCells.new w4 storeZ _
    have b5 : Below w3.heap.size w3 w5 := by rw [← hw5]; exact b4.alloc b4.size _
    have HG7 := Lib.hid (show w1.heap.size ≤ g7 from by rw [← hg7]; exact Nat.le_trans HB3.out.size b4.size)
    have HCG := Lib.hid (show c ≠ g7 from by have := HCW.out; have := HG7.out; omega)
    have HGG := Lib.hid (show g5 ≠ g7 from by have := (HS.out w3 (Below.refl _ _)).2.lt; have := b4.size; omega)
    have HTH := Lib.hid (show w5.there g7 0 V.toArray.size from by rw [show V.toArray.size = 51 from hvl]; exact z7.there 0 51 (by decide))
    have HSI := Lib.hid (show (Tryz.prog.info? 46).map (·.size) = some V.toArray.size from by rw [show V.toArray.size = 51 from hvl]; exact infostoreZ)
    have HON := Lib.hid hvo
    have HZ7 := Lib.hid z7
    have HBX := Lib.hid b5
    rw [hw5, hg7]
    clear hw5 z7 hg7
    refine hK.out _ _ (HS.out _ b5) (fun hHeld => ?_)
    clear hK K
    try simp only [Act.put, List.getElem_toArray, List.getElem_cons_zero, List.getElem_cons_succ, List.setIfInBounds_toArray, List.set_cons_zero, List.set_cons_succ]
    refine wpAnyH_ready (rs := [10]) (by kernel_rfl) (by simp) ?_
    refine AllReadyH.cons rfl (fun K hK => ?_) AllReadyH.nil
    refine step_store_mid (by rfl) 46 _ _ rfl g7 0 V.toArray rfl rfl HTH.out HSI.out HON.out ?_
    refine hK.out _ _ (⟨HasCells.upon hHeld.1 (Upon.sets _ _ _ _) HCG.out, hHeld.2.upon (Upon.sets _ _ _ _) HGG.out⟩) (fun hHeld => ?_)
    clear hK K
    simp only [Act.put]
    refine wpAnyH_take (i := 11) (v := ?_) rfl (by kernel_rfl) (by kernel_rfl) (by kernel_rfl) (fun _ _ _ h => h) (.inl ⟨by rfl, ?_⟩) (by assumption) ?_
    rotate_left 1
    · intro w0 hSw
      go_simp <;> with_reducible rfl
    try simp only [Act.put, List.getElem_toArray, List.getElem_cons_zero, List.getElem_cons_succ, List.setIfInBounds_toArray, List.set_cons_zero, List.set_cons_succ]
    refine wpAnyH_done (by kernel_rfl) ?_ 0
    have HV7 : HasCells (w5.setCells g7 0 V) g7 V 46 := by
        have h := HZ7.out.sets V 0
        rwa [spl_full (by rw [hvl]; rfl)] at h
    have bW : Below w1.heap.size w1 (w5.setCells g7 0 V) := below_upon (HB3.out.trans (HBX.out.mono HB3.out.size)) (Upon.sets _ _ _ _) HG7.out
    refine hkk _ _ ?_
    rcases hcase with hne | ⟨rfl, rfl⟩
    · exact boot_bad er g7 hne hHeld.1 bW _ _ _ _ _ _ _ _ _ _ _ _ _ _ _ _ _ _ _ _ _ _ _ _ _ _ _ _ _ _ _ _ _ _ _ _ _ _ _ _ _ _ _ _ _
    · exact boot_good n m a b d0 d e k p l cp pk lk ck su g7 hHeld.1 bW HG7.out HCW.out HV7 _ _ _ _ _ _ _ _ _ _ _ _ _ _ _ _ _ _ _ _ _ _ _ _ _ _ _ _ _ _ _ _ _ _ _ _ _ _ _ _ _ _ _ _ _
  · go_simp
    obtain ⟨g7, hg7⟩ : ∃ g, w3.heap.size = g := ⟨_, rfl⟩
    obtain ⟨w5, hw5⟩ : ∃ W, (w3.alloc (.cells #[.int .u64 0, .int .u64 0, .string ⟨#[]⟩, .string ⟨#[]⟩, .string ⟨#[]⟩, .string ⟨#[]⟩, .string ⟨#[]⟩, .int .u64 0, .slice none 0 0, .int .u64 0, .int .u64 0, .string ⟨#[]⟩, .string ⟨#[]⟩, .string ⟨#[]⟩, .string ⟨#[]⟩, .string ⟨#[]⟩, .int .u64 0, .slice none 0 0, .slice none 0 0, .string ⟨#[]⟩, .slice none 0 0, .string ⟨#[]⟩, .int .u64 0, .int .u64 0, .string ⟨#[]⟩, .string ⟨#[]⟩, .string ⟨#[]⟩, .string ⟨#[]⟩, .string ⟨#[]⟩, .int .u64 0, .slice none 0 0, .slice none 0 0, .string ⟨#[]⟩, .slice none 0 0, .int .u64 0, .int .u64 0, .string ⟨#[]⟩, .string ⟨#[]⟩, .string ⟨#[]⟩, .string ⟨#[]⟩, .string ⟨#[]⟩, .int .u64 0, .slice none 0 0, .slice none 0 0, .int .u64 0, .string ⟨#[]⟩, .int .u64 0, .bool false, .int .i64 0, .int .i64 0, .bool false] 46)).drew = W := ⟨_, rfl⟩
    have z7 : HasCells w5 g7 storeZ 46 := by rw [← hw5, ← hg7]; exact HasCells.new w3 storeZ _
    have b5 : Below w3.heap.size w3 w5 := by rw [← hw5]; exact ((Below.refl _ _).alloc (Nat.le_refl _) _).drew
    have HG7 := Lib.hid (show w1.heap.size ≤ g7 from by rw [← hg7]; exact HB3.out.size)
    have HLT := Lib.hid (show g7 < w5.heap.size from z7.lt)
    have HCG := Lib.hid (show c ≠ g7 from by have := HCW.out; have := HG7.out; omega)
    have HGG := Lib.hid (show g5 ≠ g7 from by have := (HS.out w3 (Below.refl _ _)).2.lt; omega)
    have HZ5 := Lib.hid z7
    rw [hw5, hg7]
    clear hw5 z7
    refine hK.out _ _ (HS.out _ b5) (fun hHeld => ?_)
    clear hK K
    try simp only [Act.put, List.getElem_toArray, List.getElem_cons_zero, List.getElem_cons_succ, List.setIfInBounds_toArray, List.set_cons_zero, List.set_cons_succ]
    refine wpAnyH_ready (rs := [5]) (by kernel_rfl) (by simp) ?_
    refine AllReadyH.cons rfl (fun K hK => ?_) AllReadyH.nil
    go_simp
    go_at_call 30
    refine (HBG.out _ b5).mono ?_
    rintro x w6 ⟨⟨V, er, hvl, hvo, rfl, hcase⟩, hbx⟩
    have b6 : Below w3.heap.size w3 w6 := b5.trans (hbx.mono b5.size)
    have z7 := HZ5.out.below hbx HLT.out
    have HTH := Lib.hid (show w6.there g7 0 V.toArray.size from by rw [show V.toArray.size = 51 from hvl]; exact z7.there 0 51 (by decide))
    have HSI := Lib.hid (show (Tryz.prog.info? 46).map (·.size) = some V.toArray.size from by rw [show V.toArray.size = 51 from hvl]; exact infostoreZ)
    have HON := Lib.hid hvo
    have HZ7 := Lib.hid z7
    have HBX := Lib.hid b6
    clear z7
    refine hK.out _ _ (HS.out _ b6) (fun hHeld => ?_)
    clear hK K
    try simp only [Act.put, List.getElem_toArray, List.getElem_cons_zero, List.getElem_cons_succ, List.setIfInBounds_toArray, List.set_cons_zero, List.set_cons_succ]
    refine wpAnyH_take (i := 6) (v := ?_) rfl (by kernel_rfl) (by kernel_rfl) (by kernel_rfl) (fun _ _ _ h => h) (.inl ⟨by rfl, ?_⟩) (by assumption) ?_
    rotate_left 1
    · intro w0 hSw
      go_simp <;> with_reducible rfl
    try simp only [Act.put, List.getElem_toArray, List.getElem_cons_zero, List.getElem_cons_succ, List.setIfInBounds_toArray, List.set_cons_zero, List.set_cons_succ]
    refine wpAnyH_take (i := 7) (v := ?_) rfl (by kernel_rfl) (by kernel_rfl) (by kernel_rfl) (fun _ _ _ h => h) (.inl ⟨by rfl, ?_⟩) (by assumption) ?_
    rotate_left 1
    · intro w0 hSw
      go_simp <;> with_reducible rfl
    try simp only [Act.put, List.getElem_toArray, List.getElem_cons_zero, List.getElem_cons_succ, List.setIfInBounds_toArray, List.set_cons_zero, List.set_cons_succ]
    refine wpAnyH_take (i := 8) (v := ?_) rfl (by kernel_rfl) (by kernel_rfl) (by kernel_rfl) (fun _ _ _ h => h) (.inl ⟨by rfl, ?_⟩) (by assumption) ?_
    rotate_left 1
    · intro w0 hSw
      go_simp <;> with_reducible rfl
    try simp only [Act.put, List.getElem_toArray, List.getElem_cons_zero, List.getElem_cons_succ, List.setIfInBounds_toArray, List.set_cons_zero, List.set_cons_succ]
    refine wpAnyH_ready (rs := [10]) (by kernel_rfl) (by simp) ?_
    refine AllReadyH.cons rfl (fun K hK => ?_) AllReadyH.nil
    refine step_store_mid (by rfl) 46 _ _ rfl g7 0 V.toArray rfl rfl HTH.out HSI.out HON.out ?_
    refine hK.out _ _ (⟨HasCells.upon hHeld.1 (Upon.sets _ _ _ _) HCG.out, hHeld.2.upon (Upon.sets _ _ _ _) HGG.out⟩) (fun hHeld => ?_)
    clear hK K
    simp only [Act.put]
    refine wpAnyH_take (i := 11) (v := ?_) rfl (by kernel_rfl) (by kernel_rfl) (by kernel_rfl) (fun _ _ _ h => h) (.inl ⟨by rfl, ?_⟩) (by assumption) ?_
    rotate_left 1
    · intro w0 hSw
      go_simp <;> with_reducible rfl
    try simp only [Act.put, List.getElem_toArray, List.getElem_cons_zero, List.getElem_cons_succ, List.setIfInBounds_toArray, List.set_cons_zero, List.set_cons_succ]
    refine wpAnyH_done (by kernel_rfl) ?_ 0
    have HV7 : HasCells (w6.setCells g7 0 V) g7 V 46 := by
        have h := HZ7.out.sets V 0
        rwa [spl_full (by rw [hvl]; rfl)] at h
    have bW : Below w1.heap.size w1 (w6.setCells g7 0 V) := below_upon (HB3.out.trans (HBX.out.mono HB3.out.size)) (Upon.sets _ _ _ _) HG7.out
    refine hkk _ _ ?_
    rcases hcase with hne | ⟨rfl, rfl⟩
    · exact boot_bad er g7 hne hHeld.1 bW _ _ _ _ _ _ _ _ _ _ _ _ _ _ _ _ _ _ _ _ _ _ _ _ _ _ _ _ _ _ _ _ _ _ _ _ _ _ _ _ _ _ _ _ _
    · exact boot_good n m a b d0 d e k p l cp pk lk ck su g7 hHeld.1 bW HG7.out HCW.out HV7 _ _ _ _ _ _ _ _ _ _ _ _ _ _ _ _ _ _ _ _ _ _ _ _ _ _ _ _ _ _ _ _ _ _ _ _ _ _ _ _ _ _ _ _ _
end Go.Proofs.YtpfmdhcmhcoddaaGreatDoor

/- Boot of any bytes; the walks of pharoslaw22's shown, ClientNone, ClientIdle. -/
namespace Go.Proofs.YtpfmdhcmhcoddaaGreatDoor
open Go.RowKit Go.Shelf Go.Lib
attribute [local go_sem] Oper.semAt_some

theorem stashL {P : Program} {ops : Array Oper} {Q : Exit → Act → World → Prop} {rest : List Oper} {a : Act} {W : World} (h : ∀ u, u = W → wpList P ops Q rest a u) : wpList P ops Q rest a W := h W rfl
theorem txsL_len (l : List Item) : (txsL l).length ≤ l.length := by
  induction l with
  | nil => exact Nat.le_refl _
  | cons x r ih =>
    rw [txsL]
    split
    · simp
    · simp only [List.length_cons]; omega
theorem tsL_len {x : Item} {N : Nat} (h : x.size ≤ N) : (tsL x).length ≤ N := by
  unfold tsL
  have h1 := txsL_len (opnL x (-1))
  have h2 : (opnL x (-1)).length ≤ x.list.length := by
    unfold opnL
    cases opnB x (-1) with
    | true => simp
    | false => exact Nat.le_refl _
  have := x.len_size
  omega
theorem value_lt (l : List UInt8) : (value l).1 < 18446744073709551616 := by
  unfold value
  split
  · exact (by decide)
  · exact val_lt64 (by omega)
theorem numV_lt (x : Item) : numV x < 18446744073709551616 := value_lt _
mutual
def Item.tlen : Item → Nat
  | .mk _ t l => t.length + tlenAll l
def tlenAll : List Item → Nat
  | [] => 0
  | x :: r => x.tlen + tlenAll r
end
theorem Item.text_tlen (x : Item) : x.text.length ≤ x.tlen := by cases x with | mk a b l => simp only [Item.text, Item.tlen]; omega
theorem Item.list_tlen (x : Item) : tlenAll x.list ≤ x.tlen := by cases x with | mk a b l => simp only [Item.list, Item.tlen]; omega
theorem tlenAll_mem {l : List Item} {y : Item} (h : y ∈ l) : y.tlen ≤ tlenAll l := by
  induction l with
  | nil => cases h
  | cons x r ih =>
    rw [tlenAll]
    rcases List.mem_cons.1 h with rfl | h
    · omega
    · have := ih h; omega
theorem parse_tlen (f : Nat) : ∀ (s : List UInt8) (xs : List Item), parse f s = some xs → tlenAll xs ≤ s.length := by
  induction f with
  | zero => intro s xs h; cases h
  | succ f ih =>
    intro s xs h
    unfold parse at h
    split at h
    · cases h; simp [tlenAll]
    · cases hc : cut s with
      | none => rw [hc] at h; cases h
      | some q =>
        obtain ⟨inn, b, rest⟩ := q
        have h1 := cut_sum hc
        rw [hc] at h
        dsimp only at h
        cases b with
        | false =>
          simp only [Bool.false_eq_true, if_false] at h
          cases hr : parse f rest with
          | none => rw [hr] at h; cases h
          | some ys =>
            rw [hr] at h
            cases h
            have := ih rest ys hr
            have := h1.1
            simp only [tlenAll, Item.tlen]
            omega
        | true =>
          simp only [if_true] at h
          cases hi : parse f inn with
          | none => rw [hi] at h; cases h
          | some zs =>
            rw [hi] at h
            simp only [Option.map_some] at h
            cases hr : parse f rest with
            | none => rw [hr] at h; cases h
            | some ys =>
              rw [hr] at h
              cases h
              have e1 := ih rest ys hr
              have e2 := ih inn zs hi
              have e3 := h1.2 rfl
              simp only [tlenAll, Item.tlen, List.length_nil]
              omega
theorem decode_tlen (s : List UInt8) : (decode s).1.tlen ≤ s.length := by
  unfold decode
  by_cases h : s.length > 65536
  · rw [if_pos h]; simp [Item.none, Item.tlen, tlenAll]
  · rw [if_neg h]
    cases ha : all s with
    | none => simp [Item.none, Item.tlen, tlenAll]
    | some xs =>
      have hz : tlenAll xs ≤ s.length := parse_tlen _ s xs ha
      match xs, hz with
      | [], _ => simp [Item.none, Item.tlen, tlenAll]
      | [x], hz =>
        dsimp only
        have : tlenAll [x] = x.tlen := rfl
        by_cases hd : deep x 12
        · rw [if_pos hd]; simp [Item.none, Item.tlen, tlenAll]
        · rw [if_neg hd]; dsimp only; omega
      | _ :: _ :: _, _ => simp [Item.none, Item.tlen, tlenAll]
theorem opnL_tlen {x : Item} {m : Int} {N : Nat} (hx : x.tlen ≤ N) {y : Item} (hy : y ∈ opnL x m) : y.tlen ≤ N := by
  unfold opnL at hy
  cases hb : opnB x m with
  | true =>
    rw [hb] at hy
    have := List.eq_of_mem_replicate hy
    subst this
    simp [Item.none, Item.tlen, tlenAll]
  | false =>
    rw [hb] at hy
    have h2 := tlenAll_mem (show y ∈ x.list from hy)
    have := x.list_tlen
    omega
theorem getD_tlen {l : List Item} {N i : Nat} (h : ∀ y ∈ l, y.tlen ≤ N) : (l.getD i Item.none).tlen ≤ N := by
  rw [List.getD_eq_getElem?_getD]
  cases he : l[i]? with
  | none => simp [Item.none, Item.tlen, tlenAll]
  | some y => exact h y (List.mem_of_getElem? he)
theorem li_tlen {x : Item} {N i : Nat} (hx : x.tlen ≤ N) : (li x i).tlen ≤ N := getD_tlen (fun _ hy => opnL_tlen hx hy)
theorem lh_tlen {x : Item} {N i : Nat} (hx : x.tlen ≤ N) : (lh x i).tlen ≤ N := getD_tlen (fun _ hy => opnL_tlen (li_tlen hx) hy)
theorem ly_tlen {x : Item} {N i : Nat} (hx : x.tlen ≤ N) : (ly x i).tlen ≤ N := getD_tlen (fun _ hy => opnL_tlen (li_tlen hx) hy)
theorem txtB_tlen {x : Item} {N : Nat} (hx : x.tlen ≤ N) : (txtB x).size ≤ N := by
  have : (txtB x).size = x.text.length := by unfold txtB; simp [ByteArray.size]
  have := x.text_tlen
  omega
theorem bootC_eq (X : Item) (V0 V1 V2 : Value) : bootC X V0 V1 V2 = [.int .u64 (numV (lh (bootI X 0) 0)), .int .u64 (numV (lh (bootI X 0) 1)), .string (txtB (lh (bootI X 0) 2)), .string (txtB (lh (bootI X 0) 3)), .string (txtB (lh (bootI X 0) 4)), .string (txtB (ly (bootI X 0) 0)), .string (txtB (ly (bootI X 0) 1)), .int .u64 (numV (ly (bootI X 0) 2)), V0, V1, .string (txtB (ci (bootI X 1) 1)), V2] := by
  unfold bootC
  simp only [lightC, commC, List.cons_append, List.nil_append]
set_option maxRecDepth 100000 in
set_option maxHeartbeats 3200000 in
theorem boot_msg_bad (s : ByteArray) (hs : s.size ≤ 1048576) (hb : bootBad (decode s.data.toList).1 (decode s.data.toList).2 = true) {c : Nat} {r : ByteArray} {w : World} (hc : Idle w c r) :
    Calls Tryz.prog 12 #[.pointer (some ⟨c, 0, none⟩), .string s] w fun e w' => e = .returned (.int .i64 130) ∧ Below w.heap.size w w' := by
  have hl : s.data.toList.length ≤ 1099511627776 := by have : s.data.toList.length = s.size := rfl; omega
  refine boot_none s hc (fun W => ?_)
  have h1 := bootFrom_any s.data.toList W hl
  simp only [hb] at h1
  refine h1.mono ?_
  rintro e w' ⟨p0, p1, p2, c0, c1, c2, rfl, hw, -⟩
  exact ⟨rfl, hw⟩
theorem boot_empty {c : Nat} {r : ByteArray} {w : World} (hc : Idle w c r) : Calls Tryz.prog 12 #[.pointer (some ⟨c, 0, none⟩), .string ⟨#[]⟩] w fun e w' => e = .returned (.int .i64 130) ∧ Below w.heap.size w w' :=
  boot_msg_bad ⟨#[]⟩ (by decide) (by decide +kernel) hc
theorem boot_idle (s : ByteArray) (hs : s.size ≤ 1048576) {c : Nat} {r : ByteArray} {w : World} (hc : Idle w c r) (hK : KTab w) : Calls Tryz.prog 12 #[.pointer (some ⟨c, 0, none⟩), .string s] w (BootPost w c r) := by
  have hl : s.data.toList.length ≤ 1099511627776 := by have : s.data.toList.length = s.size := rfl; omega
  have hz := decode_size s.data.toList
  have ht := decode_tlen s.data.toList
  have h1 := fun W => bootFrom_any s.data.toList W hl
  have hx : s.data.toList.length = s.size := rfl
  cases hb : bootBad (decode s.data.toList).1 (decode s.data.toList).2 with
  | true =>
    refine (boot_msg_bad s hs hb hc).mono ?_
    rintro e w' ⟨rfl, hw⟩
    exact ⟨130, rfl, .inl ⟨by decide, hc.below hw hc.lt, hw⟩⟩
  | false =>
    obtain ⟨X, hX⟩ : ∃ X, (decode s.data.toList).1 = X := ⟨_, rfl⟩
    obtain ⟨ce, hC⟩ : ∃ C, (decode s.data.toList).2 = C := ⟨_, rfl⟩
    rw [hX, hC] at hb
    rw [hX] at hz ht
    simp only [hX, hC, hb] at h1
    have hi : ∀ i, (bootI X i).size ≤ 65537 := fun i => getD_size (by omega) (fun _ hy => opnL_size hz (by omega) hy)
    have hj : ∀ i, (bootI X i).tlen ≤ 1048576 := fun i => getD_tlen (fun _ hy => opnL_tlen (by omega) hy)
    refine boot_some s (numV (lh (bootI X 0) 0)) (numV (lh (bootI X 0) 1)) (txtB (lh (bootI X 0) 2)) (txtB (lh (bootI X 0) 3)) (txtB (lh (bootI X 0) 4)) (txtB (ly (bootI X 0) 0)) (txtB (ly (bootI X 0) 1)) (numV (ly (bootI X 0) 2))
      (tsL (li (bootI X 0) 2)).length (tsL (ci (bootI X 1) 0)).length (tsL (bootI X 2)).length (txtB (ci (bootI X 1) 1)) hc
      (fun p cp pk ck pb cb W => Strs W (.slice p (tsL (li (bootI X 0) 2)).length cp) (tsL (li (bootI X 0) 2)) ∧ Strs W (.slice pk (tsL (ci (bootI X 1) 0)).length ck) (tsL (ci (bootI X 1) 0)) ∧ Strs W (.slice pb (tsL (bootI X 2)).length cb) (tsL (bootI X 2))) ?_ ?_ ?_
    · intro W
      refine (h1 W).mono ?_
      rintro e w' ⟨p0, p1, p2, c0, c1, c2, rfl, hw, h3, h4, h5⟩
      refine ⟨p0, c0, p1, c1, p2, c2, ?_, hw, h3, h4, h5⟩
      show Ending.returned (.tuple #[.agg (bootC X _ _ _).toArray, .int .i64 0]) = _
      rw [bootC_eq]
    · rintro W p cp pk ck pb cb hW ⟨h3, h4, h5⟩
      refine (begin_any r _ _ _ _ _ _ _ _ p cp _ pk ck _ _ pb cb _ W (numV_lt _) (numV_lt _) (numV_lt _) (txtB_tlen (lh_tlen (hj 0))) (txtB_tlen (lh_tlen (hj 0))) (txtB_tlen (lh_tlen (hj 0))) (txtB_tlen (ly_tlen (hj 0))) (txtB_tlen (ly_tlen (hj 0))) h3 h4 ?_ h5 (hK.below hW)).mono ?_
      · exact tsL_len (Nat.le_trans (ci_size (i := 0) (hi 1) (by omega)) (by omega))
      · rintro x w' ⟨⟨er, hne, rfl⟩ | rfl, hb'⟩
        · exact ⟨⟨storeZ, er, rfl, storeZ_one, rfl, .inl hne⟩, hb'⟩
        · exact ⟨⟨_, 0, rfl, storeB_one _ _ _ _ _ _ _ _ _ _ _ _ _ _ _ _ rfl, rfl, .inr ⟨rfl, rfl⟩⟩, hb'⟩
    · rintro W W' p cp pk ck pb cb ⟨h3, h4, h5⟩ hb'
      exact ⟨h3.below hb', h4.below hb', h5.below hb'⟩
theorem new_any (s : ByteArray) (w : World) : Calls Tryz.prog 8 #[.string s] w fun e w' => e = .returned (.pointer (some ⟨w.heap.size, 0, none⟩)) ∧ w' = w.alloc (.cells #[.string s, .pointer none] 97) := by
  go_enter Tryz.func8, Tryz.ntmps8
  go_wp2
  go_ret
  exact ⟨rfl, rfl⟩
set_option maxRecDepth 100000 in
set_option maxHeartbeats 12800000 in
theorem shown22_any (w : World) : Calls Tryz.prog 7 #[] w fun e w' => e = .returned (.bool true) ∧ Below w.heap.size w w' := by
  go_enter Tryz.func7, Tryz.ntmps7
  go_wp2_with fail
  refine (new_any _ w).mono ?_
  rintro e w1 ⟨rfl, hw1⟩
  obtain ⟨c, hcc⟩ : ∃ c, w.heap.size = c := ⟨_, rfl⟩
  have hc0 : Idle w1 c ⟨#[114]⟩ := by rw [hw1, ← hcc]; exact HasCells.new w [.string ⟨#[114]⟩, .pointer none] _
  have hb0 : Below w.heap.size w w1 := by rw [hw1]; exact (Below.refl _ _).alloc (Nat.le_refl _) _
  rw [hcc]
  have B1 := Lib.hid hb0
  have HC1 := Lib.hid hc0
  clear hw1 hc0 hb0 hcc
  go_wp2_with fail
  refine (update_idle _ _ HC1.out).mono ?_
  rintro e w2 ⟨rfl, rfl⟩
  have B2 := B1
  have HC2 := HC1
  go_wp2_with fail
  refine (boot_empty HC2.out).mono ?_
  rintro e w3 ⟨rfl, hb⟩
  have B3 := Lib.hid (B2.out.trans (hb.mono B2.out.size))
  have HC3 := Lib.hid (HC2.out.below hb HC2.out.lt)
  clear hb
  go_wp2_with fail
  refine (store_idle HC3.out).mono ?_
  rintro e w4 ⟨rfl, hb⟩
  have B4 := Lib.hid (B3.out.trans (hb.mono B3.out.size))
  have HC4 := Lib.hid (HC3.out.below hb HC3.out.lt)
  clear hb
  have hza : HasCells (w4.alloc (.cells storeZ.toArray 46)) w4.heap.size storeZ 46 := HasCells.new _ _ _
  have HTH := Lib.hid (show (w4.alloc (.cells storeZ.toArray 46)).there w4.heap.size 0 51 from hza.there 0 51 (by decide))
  clear hza
  go_wp2_with ((with_reducible refine store_gate 46 ?_); refine wpList_store_mid rfl 46 _ _ rfl w4.heap.size 0 storeZ.toArray rfl rfl HTH.out infostoreZ storeZ_one ?_; refine stashL (fun w5 hu => ?_); have hb : Below w4.heap.size w4 w5 := (by rw [hu]; exact below_upon ((Below.refl _ _).alloc (Nat.le_refl _) _) (Upon.sets _ _ _ _) (Nat.le_refl _)); clear hu)
  clear HTH
  have B5 := Lib.hid (B4.out.trans (hb.mono B4.out.size))
  have HC5 := Lib.hid (HC4.out.below hb HC4.out.lt)
  clear hb
  go_wp2_with fail
  refine (window_idle HC5.out).mono ?_
  rintro e w6 ⟨rfl, rfl⟩
  have B6 := B5
  have HC6 := HC5
  go_wp2
  go_ret
  exact ⟨rfl, B6.out⟩
set_option maxRecDepth 100000 in
set_option maxHeartbeats 12800000 in
theorem clientNone_any (s : ByteArray) (n : Int) (w : World) : Calls Tryz.prog 5 #[.string s, .int .u64 n] w fun e w' => e = .returned (.bool true) ∧ Below w.heap.size w w' := by
  go_enter Tryz.func5, Tryz.ntmps5
  go_wp2_with fail
  refine (shown22_any w).mono ?_
  rintro e w1 ⟨rfl, hb⟩
  have B1 := Lib.hid hb
  clear hb
  go_wp2_with fail
  refine (store_nil w1).mono ?_
  rintro e w2 ⟨rfl, hb⟩
  have B2 := Lib.hid (B1.out.trans (hb.mono B1.out.size))
  clear hb
  have hza : HasCells (w2.alloc (.cells storeZ.toArray 46)) w2.heap.size storeZ 46 := HasCells.new _ _ _
  have HTH := Lib.hid (show (w2.alloc (.cells storeZ.toArray 46)).there w2.heap.size 0 51 from hza.there 0 51 (by decide))
  clear hza
  go_wp2_with ((with_reducible refine store_gate 46 ?_); refine wpList_store_mid rfl 46 _ _ rfl w2.heap.size 0 storeZ.toArray rfl rfl HTH.out infostoreZ storeZ_one ?_; refine stashL (fun w3 hu => ?_); have hb : Below w2.heap.size w2 w3 := (by rw [hu]; exact below_upon ((Below.refl _ _).alloc (Nat.le_refl _) _) (Upon.sets _ _ _ _) (Nat.le_refl _)); clear hu)
  clear HTH
  have B3 := Lib.hid (B2.out.trans (hb.mono B2.out.size))
  clear hb
  go_wp2_with fail
  refine (account_nil n w3).mono ?_
  rintro e w4 ⟨rfl, hb⟩
  have B4 := Lib.hid (B3.out.trans (hb.mono B3.out.size))
  clear hb
  have hza : HasCells (w4.alloc (.cells knownZ.toArray 83)) w4.heap.size knownZ 83 := HasCells.new _ _ _
  have HTH := Lib.hid (show (w4.alloc (.cells knownZ.toArray 83)).there w4.heap.size 0 12 from hza.there 0 12 (by decide))
  clear hza
  go_wp2_with ((with_reducible refine store_gate 83 ?_); refine wpList_store_mid rfl 83 _ _ rfl w4.heap.size 0 knownZ.toArray rfl rfl HTH.out infoknownZ knownZ_one ?_; refine stashL (fun w5 hu => ?_); have hb : Below w4.heap.size w4 w5 := (by rw [hu]; exact below_upon ((Below.refl _ _).alloc (Nat.le_refl _) _) (Upon.sets _ _ _ _) (Nat.le_refl _)); clear hu)
  clear HTH
  have B5 := Lib.hid (B4.out.trans (hb.mono B4.out.size))
  clear hb
  go_wp2_with fail
  refine (receipt_nil n n w5).mono ?_
  rintro e w6 ⟨rfl, hb⟩
  have B6 := Lib.hid (B5.out.trans (hb.mono B5.out.size))
  clear hb
  have hza : HasCells (w6.alloc (.cells receiptZ.toArray 69)) w6.heap.size receiptZ 69 := HasCells.new _ _ _
  have HTH := Lib.hid (show (w6.alloc (.cells receiptZ.toArray 69)).there w6.heap.size 0 3 from hza.there 0 3 (by decide))
  clear hza
  go_wp2_with ((with_reducible refine store_gate 69 ?_); refine wpList_store_mid rfl 69 _ _ rfl w6.heap.size 0 receiptZ.toArray rfl rfl HTH.out inforeceiptZ receiptZ_one ?_; refine stashL (fun w7 hu => ?_); have hb : Below w6.heap.size w6 w7 := (by rw [hu]; exact below_upon ((Below.refl _ _).alloc (Nat.le_refl _) _) (Upon.sets _ _ _ _) (Nat.le_refl _)); clear hu)
  clear HTH
  have B7 := Lib.hid (B6.out.trans (hb.mono B6.out.size))
  clear hb
  go_wp2_with fail
  refine (ask_nil n w7).mono ?_
  rintro e w8 ⟨rfl, hb⟩
  have B8 := Lib.hid (B7.out.trans (hb.mono B7.out.size))
  clear hb
  have hza : HasCells (w8.alloc (.cells doneZ.toArray 90)) w8.heap.size doneZ 90 := HasCells.new _ _ _
  have HTH := Lib.hid (show (w8.alloc (.cells doneZ.toArray 90)).there w8.heap.size 0 3 from hza.there 0 3 (by decide))
  clear hza
  go_wp2_with ((with_reducible refine store_gate 90 ?_); refine wpList_store_mid rfl 90 _ _ rfl w8.heap.size 0 doneZ.toArray rfl rfl HTH.out infodoneZ doneZ_one ?_; refine stashL (fun w9 hu => ?_); have hb : Below w8.heap.size w8 w9 := (by rw [hu]; exact below_upon ((Below.refl _ _).alloc (Nat.le_refl _) _) (Upon.sets _ _ _ _) (Nat.le_refl _)); clear hu)
  clear HTH
  have B9 := Lib.hid (B8.out.trans (hb.mono B8.out.size))
  clear hb
  go_wp2_with fail
  refine (boot_nil s w9).mono ?_
  rintro e w10 ⟨rfl, rfl⟩
  have B10 := B9
  go_wp2_with fail
  refine (update_nil s n w10).mono ?_
  rintro e w11 ⟨rfl, rfl⟩
  have B11 := B10
  go_wp2_with fail
  refine (force_nil n w11).mono ?_
  rintro e w12 ⟨rfl, rfl⟩
  have B12 := B11
  go_wp2_with fail
  refine (window_nil w12).mono ?_
  rintro e w13 ⟨rfl, rfl⟩
  have B13 := B12
  go_wp2
  go_ret
  exact ⟨rfl, B13.out⟩
set_option maxRecDepth 100000 in
set_option maxHeartbeats 12800000 in
theorem clientIdle_any (r s : ByteArray) (n : Int) (u : ByteArray) (w : World) (hs : s.size ≤ 1048576) (hK : KTab w) : Calls Tryz.prog 6 #[.string r, .string s, .int .u64 n, .string u] w fun e w' => e = .returned (.bool true) ∧ Below w.heap.size w w' := by
  have HK := Lib.hid hK
  clear hK
  go_enter Tryz.func6, Tryz.ntmps6
  go_wp2_with fail
  refine (shown22_any w).mono ?_
  rintro e w0 ⟨rfl, hb⟩
  have B0 := Lib.hid hb
  clear hb
  go_wp2_with fail
  refine (new_any _ w0).mono ?_
  rintro e w1 ⟨rfl, hw1⟩
  obtain ⟨c, hcc⟩ : ∃ c, w0.heap.size = c := ⟨_, rfl⟩
  have hc0 : Idle w1 c r := by rw [hw1, ← hcc]; exact HasCells.new w0 [.string r, .pointer none] _
  have hb0 : Below w0.heap.size w0 w1 := by rw [hw1]; exact (Below.refl _ _).alloc (Nat.le_refl _) _
  have HCW := Lib.hid (show w.heap.size ≤ c from by rw [← hcc]; exact B0.out.size)
  rw [hcc]
  have B1 := Lib.hid (B0.out.trans (hb0.mono B0.out.size))
  have HC1 := Lib.hid hc0
  clear hw1 hc0 hb0 hcc
  go_wp2_with fail
  refine (update_idle _ _ HC1.out).mono ?_
  rintro e w2 ⟨rfl, rfl⟩
  have B2 := B1
  have HC2 := HC1
  go_wp2_with fail
  refine (force_idle _ HC2.out).mono ?_
  rintro e w3 ⟨rfl, rfl⟩
  have B3 := B2
  have HC3 := HC2
  go_wp2_with fail
  refine (account_idle n HC3.out).mono ?_
  rintro e w4 ⟨rfl, hb⟩
  have B4 := Lib.hid (B3.out.trans (hb.mono B3.out.size))
  have HC4 := Lib.hid (HC3.out.below hb HC3.out.lt)
  clear hb
  have hza : HasCells (w4.alloc (.cells knownZ.toArray 83)) w4.heap.size knownZ 83 := HasCells.new _ _ _
  have HTH := Lib.hid (show (w4.alloc (.cells knownZ.toArray 83)).there w4.heap.size 0 12 from hza.there 0 12 (by decide))
  clear hza
  go_wp2_with ((with_reducible refine store_gate 83 ?_); refine wpList_store_mid rfl 83 _ _ rfl w4.heap.size 0 knownZ.toArray rfl rfl HTH.out infoknownZ knownZ_one ?_; refine stashL (fun w5 hu => ?_); have hb : Below w4.heap.size w4 w5 := (by rw [hu]; exact below_upon ((Below.refl _ _).alloc (Nat.le_refl _) _) (Upon.sets _ _ _ _) (Nat.le_refl _)); clear hu)
  clear HTH
  have B5 := Lib.hid (B4.out.trans (hb.mono B4.out.size))
  have HC5 := Lib.hid (HC4.out.below hb HC4.out.lt)
  clear hb
  go_wp2_with fail
  refine (receipt_idle n n HC5.out).mono ?_
  rintro e w6 ⟨rfl, hb⟩
  have B6 := Lib.hid (B5.out.trans (hb.mono B5.out.size))
  have HC6 := Lib.hid (HC5.out.below hb HC5.out.lt)
  clear hb
  have hza : HasCells (w6.alloc (.cells receiptZ.toArray 69)) w6.heap.size receiptZ 69 := HasCells.new _ _ _
  have HTH := Lib.hid (show (w6.alloc (.cells receiptZ.toArray 69)).there w6.heap.size 0 3 from hza.there 0 3 (by decide))
  clear hza
  go_wp2_with ((with_reducible refine store_gate 69 ?_); refine wpList_store_mid rfl 69 _ _ rfl w6.heap.size 0 receiptZ.toArray rfl rfl HTH.out inforeceiptZ receiptZ_one ?_; refine stashL (fun w7 hu => ?_); have hb : Below w6.heap.size w6 w7 := (by rw [hu]; exact below_upon ((Below.refl _ _).alloc (Nat.le_refl _) _) (Upon.sets _ _ _ _) (Nat.le_refl _)); clear hu)
  clear HTH
  have B7 := Lib.hid (B6.out.trans (hb.mono B6.out.size))
  have HC7 := Lib.hid (HC6.out.below hb HC6.out.lt)
  clear hb
  go_wp2_with fail
  refine (ask_idle n HC7.out).mono ?_
  rintro e w8 ⟨rfl, hb⟩
  have B8 := Lib.hid (B7.out.trans (hb.mono B7.out.size))
  have HC8 := Lib.hid (HC7.out.below hb HC7.out.lt)
  clear hb
  have hza : HasCells (w8.alloc (.cells doneZ.toArray 90)) w8.heap.size doneZ 90 := HasCells.new _ _ _
  have HTH := Lib.hid (show (w8.alloc (.cells doneZ.toArray 90)).there w8.heap.size 0 3 from hza.there 0 3 (by decide))
  clear hza
  go_wp2_with ((with_reducible refine store_gate 90 ?_); refine wpList_store_mid rfl 90 _ _ rfl w8.heap.size 0 doneZ.toArray rfl rfl HTH.out infodoneZ doneZ_one ?_; refine stashL (fun w9 hu => ?_); have hb : Below w8.heap.size w8 w9 := (by rw [hu]; exact below_upon ((Below.refl _ _).alloc (Nat.le_refl _) _) (Upon.sets _ _ _ _) (Nat.le_refl _)); clear hu)
  clear HTH
  have B9 := Lib.hid (B8.out.trans (hb.mono B8.out.size))
  have HC9 := Lib.hid (HC8.out.below hb HC8.out.lt)
  clear hb
  go_wp2_with fail
  refine (boot_idle s hs HC9.out (HK.out.below B9.out)).mono ?_
  rintro e w10 ⟨er, rfl, ⟨hne, hci, hb⟩ | ⟨rfl, hbg, hbut⟩⟩
  · have HNE := Lib.hid hne
    have B10 := Lib.hid (B9.out.trans (hb.mono B9.out.size))
    have HC10 := Lib.hid hci
    clear hb hci hne
    go_wp2_with fail
    refine (store_idle HC10.out).mono ?_
    rintro e w11 ⟨rfl, hb⟩
    have B11 := Lib.hid (B10.out.trans (hb.mono B10.out.size))
    have HC11 := Lib.hid (HC10.out.below hb HC10.out.lt)
    clear hb
    have hza : HasCells (w11.alloc (.cells storeZ.toArray 46)) w11.heap.size storeZ 46 := HasCells.new _ _ _
    have HTH := Lib.hid (show (w11.alloc (.cells storeZ.toArray 46)).there w11.heap.size 0 51 from hza.there 0 51 (by decide))
    clear hza
    go_wp2_with ((with_reducible refine store_gate 46 ?_); refine wpList_store_mid rfl 46 _ _ rfl w11.heap.size 0 storeZ.toArray rfl rfl HTH.out infostoreZ storeZ_one ?_; refine stashL (fun w12 hu => ?_); have hb : Below w11.heap.size w11 w12 := (by rw [hu]; exact below_upon ((Below.refl _ _).alloc (Nat.le_refl _) _) (Upon.sets _ _ _ _) (Nat.le_refl _)); clear hu)
    clear HTH
    have B12 := Lib.hid (B11.out.trans (hb.mono B11.out.size))
    have HC12 := Lib.hid (HC11.out.below hb HC11.out.lt)
    clear hb
    go_wp2_with fail
    refine (window_idle HC12.out).mono ?_
    rintro e w13 ⟨rfl, rfl⟩
    have B13 := B12
    have HC13 := HC12
    go_wp2_with fail
    all_goals first
      | exact absurd (show er = 0 by assumption) HNE.out
      | (go_ret; exact ⟨by simp [HNE.out], B13.out⟩)
  · have B10 := Lib.hid (show Below w.heap.size w w10 from ⟨hbut.os.trans B9.out.os, hbut.tape.trans B9.out.tape, hbut.output.trans B9.out.output, Nat.le_trans B9.out.size hbut.size, fun q hq => (hbut.block q (Nat.lt_of_lt_of_le hq B9.out.size) (by have := HCW.out; omega)).trans (B9.out.block q hq)⟩)
    have HG10 := Lib.hid hbg
    clear hbut hbg
    go_wp2_with fail
    refine (store_begun HG10.out).mono ?_
    rintro e w11 ⟨⟨SB, h1, h2, rfl⟩, hb⟩
    have B11 := Lib.hid (B10.out.trans (hb.mono B10.out.size))
    have HG11 := Lib.hid (HG10.out.below hb)
    clear hb
    have HI := Lib.hid (show (Tryz.prog.info? 46).map (·.size) = some SB.toArray.size from by rw [show SB.toArray.size = 51 from h1]; exact infostoreZ)
    have HON := Lib.hid h2
    have hza : HasCells (w11.alloc (.cells storeZ.toArray 46)) w11.heap.size storeZ 46 := HasCells.new _ _ _
    have HTH := Lib.hid (show (w11.alloc (.cells storeZ.toArray 46)).there w11.heap.size 0 SB.toArray.size from by rw [show SB.toArray.size = 51 from h1]; exact hza.there 0 51 (by decide))
    clear hza
    go_wp2_with ((with_reducible refine store_gate 46 ?_); refine wpList_store_mid rfl 46 _ _ rfl w11.heap.size 0 SB.toArray rfl rfl HTH.out HI.out HON.out ?_; refine stashL (fun w12 hu => ?_); have hb : Below w11.heap.size w11 w12 := (by rw [hu]; exact below_upon ((Below.refl _ _).alloc (Nat.le_refl _) _) (Upon.sets _ _ _ _) (Nat.le_refl _)); clear hu)
    clear HTH
    have B12 := Lib.hid (B11.out.trans (hb.mono B11.out.size))
    have HG12 := Lib.hid (HG11.out.below hb)
    clear hb
    go_wp2_with fail
    refine (window_begun HG12.out).mono ?_
    rintro e w13 ⟨⟨g, cap, rfl⟩, hb⟩
    have B13 := Lib.hid (B12.out.trans (hb.mono B12.out.size))
    have HG13 := Lib.hid (HG12.out.below hb)
    clear hb
    go_wp2_with fail
    refine (boot_begun _ HG13.out).mono ?_
    rintro e w14 ⟨rfl, rfl⟩
    have B14 := B13
    have HG14 := HG13
    go_wp2
    go_ret
    exact ⟨rfl, B14.out⟩
end Go.Proofs.YtpfmdhcmhcoddaaGreatDoor
