/- What the walks take: DonA, CalA, ShoA, RunB, ShoB, EnoL, EvO. -/
import Derived.Test.YtlelgbmbmajfmaaGreatDoorS25
import Derived.Test.YtlelgbmbmajfmaaGreatDoorS27
import Derived.Test.YtlelgbmbmajfmaaGreatDoorS29
import Derived.Test.YtlelgbmbmajfmaaGreatDoorS31
import Derived.Test.YtlelgbmbmajfmaaGreatDoorRows
import Derived.Deep.Slices
import Derived.ChangeArms
import Derived.DataReads
import Derived.OpenShut
namespace Go.Proofs.YtlelgbmbmajfmaaGreatDoor
open Go.RowKit Go.Shelf Go.Lib
attribute [local go_sem] Oper.semAt_some
/-- a message -/
structure MsgE where
  src : ByteArray
  dst : ByteArray
  who : ByteArray
  value : Nat
  data : List UInt8
  gas : Nat
  still : Bool
  depth : Nat
  stays : Bool
def msgC (m : MsgE) : List Value := [.string m.src, .string m.dst, .string m.who, .int .u64 (limb m.value 0), .int .u64 (limb m.value 1), .int .u64 (limb m.value 2), .int .u64 (limb m.value 3), .string ⟨m.data.toArray⟩, .int .u64 m.gas, .bool m.still, .int .i64 m.depth, .bool m.stays]
def envC (org : ByteArray) (num : Nat) : List Value := [.string org, .int .u64 num]
theorem infoMsg : (Tryz.prog.info? 43).map (·.size) = some 12 := by kernel_rfl
theorem infoEnv : (Tryz.prog.info? 41).map (·.size) = some 2 := by kernel_rfl
theorem infoDone : (Tryz.prog.info? 28).map (·.size) = some 3 := by kernel_rfl
def doneC (how : Nat) (out : List UInt8) (left : Nat) : List Value := [.int .i64 how, .string ⟨out.toArray⟩, .int .u64 left]
/-- what a frame that has ended gives -/
def doneV (f : FrE) : List Value := if f.how = 2 ∨ f.how = 3 then doneC f.how [] 0 else doneC f.how f.out f.gas
def frame0 (s : Value) (org : ByteArray) (num : Nat) (m : MsgE) (c : List UInt8) (tos : Value) : FrE :=
  { s := s, origin := org, number := num, src := m.src, dst := m.dst, who := m.who, value := m.value, data := m.data, mgas := m.gas, still := m.still, depth := m.depth, stays := m.stays, code := c, tos := tos, stk := .slice none 0 0, stkL := [], mem := [], back := [], gas := m.gas, pc := 0, next := 0, how := 0, out := [], ended := false }
def noReady (a : ByteArray) : Bool := !Lib.hasPrefix a.data.toList (List.replicate 19 0)
theorem run_loadR {o : Oper} {a : Act} {w : World} {x : Operand} (T : TypeId) (ho : o.op = .load T x) {b q : Nat} {cs : List Value} {d : TypeDesc} (hx : a.eval x = .pointer (some ⟨b, q, none⟩)) (h : w.rangeAt b q cs) (hu : Tryz.prog.underlying T = some d) (hd : d.isRow = true) (hi : (Tryz.prog.info? T).map (·.size) = some cs.length) : (execOp a.eval o).run Tryz.prog w = .ok (.value (.agg cs.toArray)) w := by
  simp only [execOp, ho, hx, Instr.loadAt, Instr.sureAddr, Sem.run_bind, Sem.run_pure, Result.andThen_ok, run_loadVar_mid w b q _ _ _ h hu hd hi]
set_option maxRecDepth 100000 in
set_option maxHeartbeats 6400000 in
theorem ready_no (m : MsgE) (w : World) (hn : noReady m.who = true) (hd : m.data.length ≤ 1099511627776) : Calls Tryz.prog 77 #[.agg #[.string m.src, .string m.dst, .string m.who, .int .u64 (limb m.value 0), .int .u64 (limb m.value 1), .int .u64 (limb m.value 2), .int .u64 (limb m.value 3), .string ⟨m.data.toArray⟩, .int .u64 m.gas, .bool m.still, .int .i64 m.depth, .bool m.stays]] w fun e w' => e = .returned (.tuple #[.string ⟨#[]⟩, .int .u64 0, .bool false]) ∧ Below w.heap.size w w' := by
  have hz1 := HasCells.new w (msgC m) 43
  obtain ⟨w1, hw1⟩ : ∃ W, w.alloc (.cells #[.string m.src, .string m.dst, .string m.who, .int .u64 (limb m.value 0), .int .u64 (limb m.value 1), .int .u64 (limb m.value 2), .int .u64 (limb m.value 3), .string ⟨m.data.toArray⟩, .int .u64 m.gas, .bool m.still, .int .i64 m.depth, .bool m.stays] 43) = W := ⟨_, rfl⟩
  rw [show w.alloc (.cells (msgC m).toArray 43) = w1 from hw1] at hz1
  have HZ1 := Lib.hid hz1
  have HB1 := Lib.hid (show Below w.heap.size w w1 from by rw [← hw1]; exact (Below.refl _ _).alloc (Nat.le_refl _) _)
  have HW1 := Lib.hid hw1
  obtain ⟨N, hN⟩ : ∃ N, m.data.length = N := ⟨_, rfl⟩
  have hsz : (⟨m.data.toArray⟩ : ByteArray).size = N := by rw [sizeE, hN]
  have c4 := hz1.cell (j := 7) rfl
  have c2 := hz1.cell (j := 2) rfl
  have k1 : IntKind.u64.wrap (N : Int) = (N : Int) := by rw [IntKind.wrap_u64]; omega
  have k2 : IntKind.u64.wrap ((N : Int) + 31) = (N : Int) + 31 := by rw [IntKind.wrap_u64]; omega
  have k3 : ((N : Int) + 31).tdiv 32 = (((N + 31) / 32 : Nat) : Int) := by rw [Int.tdiv_eq_ediv_of_nonneg (by omega)]; omega
  have k4 : IntKind.u64.wrap (((N + 31) / 32 : Nat) : Int) = (((N + 31) / 32 : Nat) : Int) := by rw [IntKind.wrap_u64]; omega
  have hp : Lib.hasPrefix m.who.data.toList (List.replicate 19 0) = false := by unfold noReady at hn; simpa using hn
  have HP := Lib.hid hp
  clear hz1 hw1 hn hN
  go_enter Tryz.func77, Tryz.ntmps77
  go_wp2_with (rw [HW1.out])
  refine wp_region_held_drew (S := (fun W => W.cell? ⟨w.heap.size, 2, none⟩ = some (.string m.who))) (by kernel_rfl) (c2) (fun hHeld => ?_)
  refine hT 0 ?_
  refine hD 1 ?_
  refine wpAnyH_ready (rs := [2]) (by kernel_rfl) (by simp) ?_
  refine AllReadyH.cons rfl (fun K hK => ?_) AllReadyH.nil
  go_simp
  go_at_call 84
  refine (zerosE 19 (by decide) _).mono ?_
  rintro e w2 ⟨rfl, hb2⟩
  have HB2 := Lib.hid (HB1.out.trans (((Below.refl _ w1).drew.trans hb2).mono HB1.out.size))
  have HZ2 := Lib.hid (HZ1.out.after ((Below.refl _ w1).drew.trans hb2))
  clear hb2
  refine hK.out _ _ (HZ2.out.cell (j := 2) rfl) (fun hHeld => ?_)
  clear hK K
  try simp only [Act.put, zq]
  refine wpAnyH_ready (rs := [3]) (by kernel_rfl) (by simp) ?_
  refine AllReadyH.cons rfl (fun K hK => ?_) AllReadyH.nil
  go_simp
  go_at_call 92
  refine (Tryz.strings_CutPrefix m.who ⟨(List.replicate 19 0).toArray⟩ _).mono ?_
  rintro e w3 ⟨rfl, hw3⟩
  have HB3 := Lib.hid (show Below w.heap.size w w3 from by rw [hw3]; exact HB2.out)
  have HZ3 := Lib.hid (show HasCells w3 w.heap.size (msgC m) 43 from by rw [hw3]; exact HZ2.out)
  clear hw3
  rw [show (⟨(List.replicate 19 0).toArray⟩ : ByteArray).data.toList = List.replicate 19 0 from rfl, HP.out]
  refine hK.out _ _ (HZ3.out.cell (j := 2) rfl) (fun hHeld => ?_)
  clear hK K
  try simp only [Act.put, zq]
  refine hT 4 ?_
  refine hT 5 ?_
  refine hT 6 ?_
  refine hT 7 ?_
  refine hT 8 ?_
  refine wpAnyH_done (by kernel_rfl) ?_ 0
  go_wp2
  refine bodyPost_ret (results_tmp3E rfl _ _) rfl ?_
  exact ⟨rfl, HB3.out⟩
theorem run_env {o : Oper} {a : Act} {w : World} {x : Operand} {b q : Nat} {org : ByteArray} {num : Nat} (h : w.rangeAt b q (envC org num)) (ho : o.op = .load 41 x) (hx : a.eval x = .pointer (some ⟨b, q, none⟩)) : (execOp a.eval o).run Tryz.prog w = .ok (.value (.agg #[.string org, .int .u64 num])) w := run_loadR 41 ho hx h Tryz.underlying41 rfl infoEnv
theorem run_msg {o : Oper} {a : Act} {w : World} {x : Operand} {b q : Nat} {m : MsgE} (h : w.rangeAt b q (msgC m)) (ho : o.op = .load 43 x) (hx : a.eval x = .pointer (some ⟨b, q, none⟩)) : (execOp a.eval o).run Tryz.prog w = .ok (.value (.agg #[.string m.src, .string m.dst, .string m.who, .int .u64 (limb m.value 0), .int .u64 (limb m.value 1), .int .u64 (limb m.value 2), .int .u64 (limb m.value 3), .string ⟨m.data.toArray⟩, .int .u64 m.gas, .bool m.still, .int .i64 m.depth, .bool m.stays])) w := run_loadR 43 ho hx h Tryz.underlying43 rfl infoMsg
theorem IntsAt.form {w : World} {v : Value} {js : List Nat} {B : Nat} (h : IntsAt w v js B) : ∃ p n c, v = .slice p n c := by
  rcases h with ⟨_, a, c, h⟩ | ⟨b, c, h, _⟩
  · exact ⟨a, 0, c, h⟩
  · exact ⟨_, _, _, h⟩
/-- the boxes of done's arguments, and of what it gives -/
def boxW (w : World) (org : ByteArray) (num : Nat) (m : MsgE) : World := ((w.alloc (.cells #[.string org, .int .u64 num] 41)).alloc (.cells #[.string m.src, .string m.dst, .string m.who, .int .u64 (limb m.value 0), .int .u64 (limb m.value 1), .int .u64 (limb m.value 2), .int .u64 (limb m.value 3), .string ⟨m.data.toArray⟩, .int .u64 m.gas, .bool m.still, .int .i64 m.depth, .bool m.stays] 43)).alloc (.cells #[.int .i64 0, .string ⟨#[]⟩, .int .u64 0] 28)
structure BoxAt (w : World) (org : ByteArray) (num : Nat) (m : MsgE) (W : World) : Prop where
  env : HasCells W w.heap.size (envC org num) 41
  msg : HasCells W (w.heap.size + 1) (msgC m) 43
  don : HasCells W (w.heap.size + 2) [.int .i64 0, .string ⟨#[]⟩, .int .u64 0] 28
  size : w.heap.size + 3 ≤ W.heap.size
  below : Below w.heap.size w W
theorem BoxAt.after {w W W' : World} {org : ByteArray} {num : Nat} {m : MsgE} (h : BoxAt w org num m W) (hb : Below W.heap.size W W') : BoxAt w org num m W' :=
  ⟨h.env.after hb, h.msg.after hb, h.don.after hb, Nat.le_trans h.size hb.size, h.below.trans (hb.mono h.below.size)⟩
theorem box_at (w : World) (org : ByteArray) (num : Nat) (m : MsgE) : BoxAt w org num m (boxW w org num m) := by
  have e : ∀ (W : World) (o : Obj), (W.alloc o).heap.size = W.heap.size + 1 := fun W o => World.size_alloc _ _
  refine ⟨?_, ?_, ?_, ?_, ?_⟩
  · exact ((HasCells.new w (envC org num) 41).alloc _).alloc _
  · have h := HasCells.new (w.alloc (.cells (envC org num).toArray 41)) (msgC m) 43
    rw [e] at h
    exact h.alloc _
  · have h := HasCells.new ((w.alloc (.cells (envC org num).toArray 41)).alloc (.cells (msgC m).toArray 43)) [.int .i64 0, .string ⟨#[]⟩, .int .u64 0] 28
    rw [e, e] at h
    exact h
  · show _ ≤ ((((w.alloc _).alloc _).alloc _) : World).heap.size
    rw [e, e, e]
    omega
  · exact (((Below.refl _ w).alloc (Nat.le_refl _) _).alloc (by rw [e]; omega) _).alloc (by rw [e, e]; omega) _
theorem three_one (a : Int) (b : ByteArray) (c : Int) : (#[.int .i64 a, .string b, .int .u64 c] : Array Value).all (·.oneCell') = true := by simp [Value.oneCell']
set_option maxRecDepth 100000 in
set_option maxHeartbeats 6400000 in
theorem done_miss (B : Nat) (S : StE) (org : ByteArray) (num : Nat) (m : MsgE) (w : World) (hs : StAt B w S) (hK : KecT w) (hok : ∀ k, S.kn m.who = some k → KnOk k) (hn : noReady m.who = true) (hd : m.data.length ≤ 1099511627776) (hc : codeN S m.who = 190) :
    Calls Tryz.prog 59 #[.pointer (some ⟨B + 6, 0, none⟩), .agg #[.string org, .int .u64 num], .agg #[.string m.src, .string m.dst, .string m.who, .int .u64 (limb m.value 0), .int .u64 (limb m.value 1), .int .u64 (limb m.value 2), .int .u64 (limb m.value 3), .string ⟨m.data.toArray⟩, .int .u64 m.gas, .bool m.still, .int .i64 m.depth, .bool m.stays]] w fun e w' => e = .returned (.agg (doneC 3 [] 0).toArray) ∧ Below w.heap.size w w' := by
  have hbx := box_at w org num m
  obtain ⟨w1, hw1⟩ : ∃ W, boxW w org num m = W := ⟨_, rfl⟩
  rw [hw1] at hbx
  have HBX := Lib.hid hbx
  have HS1 := Lib.hid (hs.after hbx.below)
  have HRD := Lib.hid (fun W => ready_no m W hn hd)
  have HCD := Lib.hid (fun W (h : StAt B W S) (hk : KecT W) => code_any B S m.who W h hk hok)
  have HK1 := Lib.hid (hK.below hbx.below)
  rw [hc] at HCD
  obtain ⟨C, hC⟩ : ∃ C, codeC S m.who = C := ⟨_, rfl⟩
  rw [hC] at HCD
  have HW1 := Lib.hid hw1
  clear hs hK hok hn hd hc hC hbx hw1
  go_enter Tryz.func59, Tryz.ntmps59
  go_wp2_with fail
  unfold boxW at HW1
  rw [HW1.out]
  refine wp_scope_straight ?_
  go_wp2_with ((with_reducible refine load_gateK 43 ?_); refine wpList_load_midK rfl 43 _ rfl (w.heap.size + 1) 0 rfl (msgC m) _ HBX.out.msg.range Tryz.underlying43 rfl infoMsg ?_)
  refine (HRD.out _).mono ?_
  rintro e w2 ⟨rfl, hb2⟩
  have hbx2 := HBX.out.after hb2
  have c2 := hbx2.msg.cell (j := 2) rfl
  have HBX2 := Lib.hid hbx2
  have HS2 := Lib.hid (HS1.out.after hb2)
  have HK2 := Lib.hid (HK1.out.below hb2)
  clear hb2 hbx2
  go_wp2_with fail
  refine (HCD.out _ HS2.out HK2.out).mono ?_
  rintro e w3 ⟨rfl, hb3⟩
  have HBX3 := Lib.hid (HBX2.out.after hb3)
  have HS3 := Lib.hid (HS2.out.after hb3)
  clear hb3 c2
  go_wp2_with ((with_reducible refine store_gateK 28 ?_); refine wpList_store_mid rfl 28 _ _ rfl (w.heap.size + 2) 0 #[.int .i64 3, .string ⟨#[]⟩, .int .u64 0] rfl rfl (HBX3.out.don.there 0 _ (Nat.le_refl _)) infoDone (three_one _ _ _) ?_)
  have hf := HBX3.out.don.whole (vs := doneC 3 [] 0) rfl
  dsimp only [Exit.noGoto]
  refine bodyPost_ret (results_cells rfl _ _ (w.heap.size + 2) (doneC 3 [] 0) _ (by rfl) hf.range Tryz.underlying28 rfl infoDone) rfl ⟨rfl, below_sets (by omega) _ _ _ HBX3.out.below⟩
set_option maxRecDepth 100000 in
set_option maxHeartbeats 6400000 in
theorem done_code (B : Nat) (S : StE) (org : ByteArray) (num : Nat) (m : MsgE) (w : World) (hs : StAt B w S) (hK : KecT w) (hok : ∀ k, S.kn m.who = some k → KnOk k) (hn : noReady m.who = true) (hd : m.data.length ≤ 1099511627776) (hc : codeN S m.who = 0)
    (c : List UInt8) (hcc : codeC S m.who = ⟨c.toArray⟩) (hcl : c.length ≤ 1099511627776) (R : World → FrE → Prop) (n : Nat)
    (HR : ∀ p tos W, StAt B W S → Below w.heap.size w W → w.heap.size ≤ p → IntsAt W tos (jmpsC c) p → Fra p W (frame0 (.pointer (some ⟨B + 6, 0, none⟩)) org num m c tos) → RunTo p (fun W' f' => Below p W W' ∧ R W' f') n W (frame0 (.pointer (some ⟨B + 6, 0, none⟩)) org num m c tos)) :
    Calls Tryz.prog 59 #[.pointer (some ⟨B + 6, 0, none⟩), .agg #[.string org, .int .u64 num], .agg #[.string m.src, .string m.dst, .string m.who, .int .u64 (limb m.value 0), .int .u64 (limb m.value 1), .int .u64 (limb m.value 2), .int .u64 (limb m.value 3), .string ⟨m.data.toArray⟩, .int .u64 m.gas, .bool m.still, .int .i64 m.depth, .bool m.stays]] w fun e w' => ∃ W' f', R W' f' ∧ e = .returned (.agg (doneV f').toArray) ∧ Below w.heap.size w w' := by
  have hbx := box_at w org num m
  obtain ⟨w1, hw1⟩ : ∃ W, boxW w org num m = W := ⟨_, rfl⟩
  rw [hw1] at hbx
  have HBX := Lib.hid hbx
  have HS1 := Lib.hid (hs.after hbx.below)
  have HRD := Lib.hid (fun W => ready_no m W hn hd)
  have HCD := Lib.hid (fun W (h : StAt B W S) (hk : KecT W) => code_any B S m.who W h hk hok)
  have HK1 := Lib.hid (hK.below hbx.below)
  rw [hc, hcc] at HCD
  have HJU := Lib.hid (fun W => jumps_any c W hcl)
  have HRR := Lib.hid HR
  have HLT := Lib.hid hs.lt
  have HW1 := Lib.hid hw1
  clear hs hK hok hn hd hc hcc hbx hw1 HR hcl
  go_enter Tryz.func59, Tryz.ntmps59
  go_wp2_with fail
  unfold boxW at HW1
  rw [HW1.out]
  refine wp_scope_straight ?_
  go_wp2_with ((with_reducible refine load_gateK 43 ?_); refine wpList_load_midK rfl 43 _ rfl (w.heap.size + 1) 0 rfl (msgC m) _ HBX.out.msg.range Tryz.underlying43 rfl infoMsg ?_)
  refine (HRD.out _).mono ?_
  rintro e w2 ⟨rfl, hb2⟩
  have hbx2 := HBX.out.after hb2
  have c2 := hbx2.msg.cell (j := 2) rfl
  have HBX2 := Lib.hid hbx2
  have HS2 := Lib.hid (HS1.out.after hb2)
  have HK2 := Lib.hid (HK1.out.below hb2)
  clear hb2 hbx2
  go_wp2_with fail
  refine (HCD.out _ HS2.out HK2.out).mono ?_
  rintro e w3 ⟨rfl, hb3⟩
  have HBX3 := Lib.hid (HBX2.out.after hb3)
  have HS3 := Lib.hid (HS2.out.after hb3)
  clear hb3 c2
  go_wp2_with fail
  have HB3 := Lib.hid HBX3.out.below
  refine wp_region_held_drew (S := (fun W => W.rangeAt w.heap.size 0 (envC org num) ∧ W.rangeAt (w.heap.size + 1) 0 (msgC m) ∧ W.cell? ⟨w.heap.size + 1, 8, none⟩ = some (.int .u64 m.gas))) (by kernel_rfl) (⟨HBX3.out.env.range, HBX3.out.msg.range, HBX3.out.msg.cell (j := 8) rfl⟩) (fun hHeld => ?_)
  refine hT 0 ?_
  refine hU 1 ?_ (hy := fun w0 hSw => run_env hSw.1 rfl rfl)
  refine hU 2 ?_ (hy := fun w0 hSw => run_msg hSw.2.1 rfl rfl)
  refine hT 3 ?_
  refine hT 4 ?_
  refine hT 6 ?_
  refine hD 7 ?_
  refine wpAnyH_ready (rs := [5]) (by kernel_rfl) (by simp) ?_
  refine AllReadyH.cons rfl (fun K hK => ?_) AllReadyH.nil
  go_simp
  go_at_call 79
  refine (HJU.out _).mono ?_
  rintro e w4 ⟨⟨tos, rfl, hto⟩, hb4⟩
  have HBX4 := Lib.hid (HBX3.out.after ((Below.refl _ w3).drew.trans hb4))
  have HS4 := Lib.hid (HS3.out.after ((Below.refl _ w3).drew.trans hb4))
  obtain ⟨tp, tn, tc, rfl⟩ := hto.form
  have HTO := Lib.hid hto
  clear hb4 hto
  refine hK.out _ _ (⟨HBX4.out.env.range, HBX4.out.msg.range, HBX4.out.msg.cell (j := 8) rfl⟩) (fun hHeld => ?_)
  clear hK K
  try simp only [Act.put, zq]
  refine hT 8 ?_
  refine wpAnyH_ready (rs := [9]) (by kernel_rfl) (by simp) ?_
  refine AllReadyH.cons rfl (fun K hK => ?_) AllReadyH.nil
  go_simp
  have hnew := HasCells.new w4 (cellsF (frame0 (.pointer (some ⟨B + 6, 0, none⟩)) org num m c (.slice tp tn tc))) 150
  obtain ⟨w5, hw5⟩ : ∃ W, w4.alloc (.cells (cellsF (frame0 (.pointer (some ⟨B + 6, 0, none⟩)) org num m c (.slice tp tn tc))).toArray 150) = W := ⟨_, rfl⟩
  rw [hw5] at hnew
  change K _ (w4.alloc (.cells (cellsF (frame0 (.pointer (some ⟨B + 6, 0, none⟩)) org num m c (.slice tp tn tc))).toArray 150))
  rw [hw5]
  have hb5 : Below w4.heap.size w4 w5 := by rw [← hw5]; exact (Below.refl _ _).alloc (Nat.le_refl _) _
  have HBX5 := Lib.hid (HBX4.out.after hb5)
  have HS5 := Lib.hid (HS4.out.after hb5)
  have HF5 := Lib.hid (show Fra w4.heap.size w5 (frame0 (.pointer (some ⟨B + 6, 0, none⟩)) org num m c (.slice tp tn tc)) from ⟨hnew, OwnW.nil _ _⟩)
  have HTO5 := Lib.hid (HTO.out.below hb5)
  clear hnew hw5 hb5
  refine hK.out _ _ (⟨HBX5.out.env.range, HBX5.out.msg.range, HBX5.out.msg.cell (j := 8) rfl⟩) (fun hHeld => ?_)
  clear hK K
  try simp only [Act.put, zq]
  refine hT 10 ?_
  refine wpAnyH_done (by kernel_rfl) ?_ 0
  go_wp2_with fail
  refine wp_label ?_
  go_wp2_with fail
  go_loopg [] n (fun gg wr => ∃ f, Aside (RunTo w4.heap.size (fun W' f' => Below w4.heap.size w5 W' ∧ R W' f') gg wr f) ∧ Aside (Fra w4.heap.size wr f))
  case atStart => exact ⟨_, HRR.out w4.heap.size _ w5 HS5.out HBX5.out.below HBX4.out.below.size HTO5.out HF5.out, HF5.out⟩
  case round =>
    obtain ⟨f, hrt, hfr⟩ := hrel
    cases gk with
    | zero => exact hrt.elim
    | succ k =>
      have HRT := Lib.hid hrt
      clear hrt hfr
      go_wp2_with fail
      refine (show Calls _ _ _ _ _ from HRT.out).mono ?_
      rintro e w6 ⟨⟨v6, rfl⟩, f', hf', h6⟩
      have y1 := hf'.at 25 rfl
      have HF6 := Lib.hid hf'
      rcases h6 with ⟨he, hb6, hr6⟩ | ⟨he, hr6⟩
      · rw [he] at y1
        have y2 := hf'.at 23 rfl
        have HR6 := Lib.hid hr6
        have HBX6 := Lib.hid (show BoxAt w org num m w6 from ⟨HBX5.out.env.below hb6 (by have := HBX4.out.size; omega), HBX5.out.msg.below hb6 (by have := HBX4.out.size; omega), HBX5.out.don.below hb6 (by have := HBX4.out.size; omega), Nat.le_trans HBX5.out.size hb6.size, HBX5.out.below.trans (hb6.mono (by have := HBX4.out.size; omega))⟩)
        clear hf' hr6 he hb6
        by_cases h2 : f'.how = 2
        · rw [h2] at y2
          have HD := Lib.hid (show doneV f' = doneC 2 [] 0 from by unfold doneV; rw [h2]; rfl)
          clear h2
          go_wp2_with ((with_reducible refine store_gateK 28 ?_); refine wpList_store_mid rfl 28 _ _ rfl (w.heap.size + 2) 0 #[.int .i64 2, .string ⟨#[]⟩, .int .u64 0] rfl rfl (HBX6.out.don.there 0 _ (Nat.le_refl _)) infoDone (three_one _ _ _) ?_)
          dsimp only [Exit.noGoto]
          have hf := HBX6.out.don.whole (vs := doneC 2 [] 0) rfl
          refine bodyPost_ret (results_cells rfl _ _ (w.heap.size + 2) (doneC 2 [] 0) _ (by rfl) hf.range Tryz.underlying28 rfl infoDone) rfl ⟨w6, f', HR6.out, by rw [HD.out], below_sets (by omega) _ _ _ HBX6.out.below⟩
        · have n2 : ¬ ((f'.how : Int) = 2) := by omega
          by_cases h3 : f'.how = 3
          · rw [h3] at y2
            have HD := Lib.hid (show doneV f' = doneC 3 [] 0 from by unfold doneV; rw [h3]; rfl)
            clear h2 h3 n2
            go_wp2_with ((with_reducible refine store_gateK 28 ?_); refine wpList_store_mid rfl 28 _ _ rfl (w.heap.size + 2) 0 #[.int .i64 3, .string ⟨#[]⟩, .int .u64 0] rfl rfl (HBX6.out.don.there 0 _ (Nat.le_refl _)) infoDone (three_one _ _ _) ?_)
            dsimp only [Exit.noGoto]
            have hf := HBX6.out.don.whole (vs := doneC 3 [] 0) rfl
            refine bodyPost_ret (results_cells rfl _ _ (w.heap.size + 2) (doneC 3 [] 0) _ (by rfl) hf.range Tryz.underlying28 rfl infoDone) rfl ⟨w6, f', HR6.out, by rw [HD.out], below_sets (by omega) _ _ _ HBX6.out.below⟩
          · have n3 : ¬ ((f'.how : Int) = 3) := by omega
            have HD := Lib.hid (show doneV f' = doneC f'.how f'.out f'.gas from by unfold doneV; rw [if_neg (by omega)])
            obtain ⟨hw, hhw⟩ : ∃ h, f'.how = h := ⟨_, rfl⟩
            have HHW := Lib.hid hhw
            rw [hhw] at y2 n2 n3 HD
            have HC6 := Lib.hid (And.intro y2 (And.intro (HF6.out.at 24 rfl) (HF6.out.at 20 rfl)))
            have b2 : ((hw : Int) == 2) = false := beq_eq_false_iff_ne.2 n2
            have b3 : ((hw : Int) == 3) = false := beq_eq_false_iff_ne.2 n3
            clear hhw h2 h3
            go_wp2_with fail
            refine wp_region_held_drew (S := (fun W => W.cell? ⟨w4.heap.size, 23, none⟩ = some (.int .i64 hw) ∧ W.cell? ⟨w4.heap.size, 24, none⟩ = some (.string ⟨f'.out.toArray⟩) ∧ W.cell? ⟨w4.heap.size, 20, none⟩ = some (.int .u64 f'.gas))) (by kernel_rfl) (HC6.out) (fun hHeld => ?_)
            refine hT 0 ?_
            refine hT 1 ?_
            refine hT 2 ?_
            refine hD 3 ?_
            refine hT 4 ?_
            refine hT 5 ?_
            refine hT 6 ?_
            refine hD 7 ?_
            refine hT 8 ?_
            refine hT 9 ?_
            refine hT 10 ?_
            refine hD 11 ?_
            refine hT 12 ?_
            refine wpAnyH_ready (rs := [13]) (by kernel_rfl) (by simp) ?_
            refine AllReadyH.cons rfl (fun K hK => ?_) AllReadyH.nil
            refine step_storeK (by rfl) 28 _ _ rfl (w.heap.size + 2) 0 #[.int .i64 hw, .string ⟨f'.out.toArray⟩, .int .u64 f'.gas] rfl rfl (HBX6.out.don.there 0 _ (Nat.le_refl _)) infoDone (three_one _ _ _) ?_
            have hst : ∀ q, q ≠ w.heap.size + 2 → ((w6.drew).setCells (w.heap.size + 2) 0 [.int .i64 hw, .string ⟨f'.out.toArray⟩, .int .u64 f'.gas]).heap[q]? = w6.heap[q]? := fun q hq => setCells_other hq _ _ _
            have hb14 : ∀ j, ((w6.drew).setCells (w.heap.size + 2) 0 [.int .i64 hw, .string ⟨f'.out.toArray⟩, .int .u64 f'.gas]).cell? ⟨w4.heap.size, j, none⟩ = w6.cell? ⟨w4.heap.size, j, none⟩ := fun j => World.cell?_of_block (hst _ (by have := HBX4.out.size; simp only; omega))
            refine hK.out _ _ (⟨(hb14 23).trans HC6.out.1, (hb14 24).trans HC6.out.2.1, (hb14 20).trans HC6.out.2.2⟩) (fun hHeld => ?_)
            clear hK K
            try simp only [Act.put, zq]
            clear hHeld hst hb14
            refine wpAnyH_done (by kernel_rfl) ?_ 0
            go_wp2
            dsimp only [Exit.noGoto]
            have hf := HBX6.out.don.whole (vs := doneC hw f'.out f'.gas) rfl
            refine bodyPost_ret (results_cells rfl _ _ (w.heap.size + 2) (doneC hw f'.out f'.gas) _ (by rfl) hf.range Tryz.underlying28 rfl infoDone) rfl ⟨w6, f', HR6.out, by rw [HD.out], below_sets (by omega) _ _ _ HBX6.out.below.drew⟩
      · rw [he] at y1
        have HR6 := Lib.hid hr6
        clear hf' hr6 he
        go_wp2_with fail
        go_roundg k
        case measure => omega
        case rel => exact ⟨f', HR6.out, HF6.out⟩
end Go.Proofs.YtlelgbmbmajfmaaGreatDoor

namespace Go.Proofs.YtlelgbmbmajfmaaGreatDoor
open Go.RowKit Go.Shelf Go.Lib
attribute [local go_sem] Oper.semAt_some
def msgZ (m : MsgE) (z : Int) : List Value := [.string m.src, .string m.dst, .string m.who, .int .u64 (limb m.value 0), .int .u64 (limb m.value 1), .int .u64 (limb m.value 2), .int .u64 (limb m.value 3), .string ⟨m.data.toArray⟩, .int .u64 m.gas, .bool m.still, .int .i64 z, .bool m.stays]
def boxZ (w : World) (org : ByteArray) (num : Nat) (m : MsgE) (z : Int) : World := ((w.alloc (.cells #[.string org, .int .u64 num] 41)).alloc (.cells #[.string m.src, .string m.dst, .string m.who, .int .u64 (limb m.value 0), .int .u64 (limb m.value 1), .int .u64 (limb m.value 2), .int .u64 (limb m.value 3), .string ⟨m.data.toArray⟩, .int .u64 m.gas, .bool m.still, .int .i64 z, .bool m.stays] 43)).alloc (.cells #[.int .i64 0, .string ⟨#[]⟩, .int .u64 0] 28)
structure BoxZ (w : World) (org : ByteArray) (num : Nat) (m : MsgE) (z : Int) (W : World) : Prop where
  env : HasCells W w.heap.size (envC org num) 41
  msg : HasCells W (w.heap.size + 1) (msgZ m z) 43
  don : HasCells W (w.heap.size + 2) [.int .i64 0, .string ⟨#[]⟩, .int .u64 0] 28
  size : w.heap.size + 3 ≤ W.heap.size
  below : Below w.heap.size w W
theorem box_z (w : World) (org : ByteArray) (num : Nat) (m : MsgE) (z : Int) : BoxZ w org num m z (boxZ w org num m z) := by
  have e : ∀ (W : World) (o : Obj), (W.alloc o).heap.size = W.heap.size + 1 := fun W o => World.size_alloc _ _
  refine ⟨?_, ?_, ?_, ?_, ?_⟩
  · exact ((HasCells.new w (envC org num) 41).alloc _).alloc _
  · have h := HasCells.new (w.alloc (.cells (envC org num).toArray 41)) (msgZ m z) 43
    rw [e] at h
    exact h.alloc _
  · have h := HasCells.new ((w.alloc (.cells (envC org num).toArray 41)).alloc (.cells (msgZ m z).toArray 43)) [.int .i64 0, .string ⟨#[]⟩, .int .u64 0] 28
    rw [e, e] at h
    exact h
  · show _ ≤ ((((w.alloc _).alloc _).alloc _) : World).heap.size
    rw [e, e, e]
    omega
  · exact (((Below.refl _ w).alloc (Nat.le_refl _) _).alloc (by rw [e]; omega) _).alloc (by rw [e, e]; omega) _
set_option maxRecDepth 100000 in
set_option maxHeartbeats 6400000 in
theorem call_nil (org : ByteArray) (num : Nat) (m : MsgE) (z : Int) (w : World) : Calls Tryz.prog 32 #[.pointer none, .agg #[.string org, .int .u64 num], .agg #[.string m.src, .string m.dst, .string m.who, .int .u64 (limb m.value 0), .int .u64 (limb m.value 1), .int .u64 (limb m.value 2), .int .u64 (limb m.value 3), .string ⟨m.data.toArray⟩, .int .u64 m.gas, .bool m.still, .int .i64 z, .bool m.stays]] w fun e w' => e = .returned (.agg #[.int .i64 2, .string ⟨#[]⟩, .int .u64 m.gas]) ∧ Below w.heap.size w w' := by
  have hbx := box_z w org num m z
  obtain ⟨w1, hw1⟩ : ∃ W, boxZ w org num m z = W := ⟨_, rfl⟩
  rw [hw1] at hbx
  have c8 := hbx.msg.cell (j := 8) rfl
  have HBX := Lib.hid hbx
  have HW1 := Lib.hid hw1
  clear hbx hw1
  go_enter Tryz.func32, Tryz.ntmps32
  unfold boxZ at HW1
  go_wp2_with (first | rw [HW1.out] | ((with_reducible refine store_gateK 28 ?_); refine wpList_store_mid rfl 28 _ _ rfl (w.heap.size + 2) 0 #[.int .i64 2, .string ⟨#[]⟩, .int .u64 m.gas] rfl rfl (HBX.out.don.there 0 _ (Nat.le_refl _)) infoDone (three_one _ _ _) ?_))
  have hf := HBX.out.don.whole (vs := [.int .i64 2, .string ⟨#[]⟩, .int .u64 m.gas]) rfl
  refine bodyPost_ret (results_cells rfl _ _ (w.heap.size + 2) [.int .i64 2, .string ⟨#[]⟩, .int .u64 m.gas] _ (by rfl) hf.range Tryz.underlying28 rfl infoDone) rfl ⟨rfl, below_sets (by omega) _ _ _ HBX.out.below⟩
set_option maxRecDepth 100000 in
set_option maxHeartbeats 6400000 in
theorem call_deep (q : Addr) (org : ByteArray) (num : Nat) (m : MsgE) (z : Int) (hz : z < 0 ∨ 64 < z) (w : World) : Calls Tryz.prog 32 #[.pointer (some q), .agg #[.string org, .int .u64 num], .agg #[.string m.src, .string m.dst, .string m.who, .int .u64 (limb m.value 0), .int .u64 (limb m.value 1), .int .u64 (limb m.value 2), .int .u64 (limb m.value 3), .string ⟨m.data.toArray⟩, .int .u64 m.gas, .bool m.still, .int .i64 z, .bool m.stays]] w fun e w' => e = .returned (.agg #[.int .i64 2, .string ⟨#[]⟩, .int .u64 m.gas]) ∧ Below w.heap.size w w' := by
  have hbx := box_z w org num m z
  obtain ⟨w1, hw1⟩ : ∃ W, boxZ w org num m z = W := ⟨_, rfl⟩
  rw [hw1] at hbx
  have c8 := hbx.msg.cell (j := 8) rfl
  have c10 := hbx.msg.cell (j := 10) rfl
  have HBX := Lib.hid hbx
  have HW1 := Lib.hid hw1
  clear hbx hw1
  unfold boxZ at HW1
  by_cases h1 : z < 0
  · clear hz
    go_enter Tryz.func32, Tryz.ntmps32
    go_wp2_with (first | rw [HW1.out] | ((with_reducible refine store_gateK 28 ?_); refine wpList_store_mid rfl 28 _ _ rfl (w.heap.size + 2) 0 #[.int .i64 2, .string ⟨#[]⟩, .int .u64 m.gas] rfl rfl (HBX.out.don.there 0 _ (Nat.le_refl _)) infoDone (three_one _ _ _) ?_))
    have hf := HBX.out.don.whole (vs := [.int .i64 2, .string ⟨#[]⟩, .int .u64 m.gas]) rfl
    refine bodyPost_ret (results_cells rfl _ _ (w.heap.size + 2) [.int .i64 2, .string ⟨#[]⟩, .int .u64 m.gas] _ (by rfl) hf.range Tryz.underlying28 rfl infoDone) rfl ⟨rfl, below_sets (by omega) _ _ _ HBX.out.below⟩
  · have h2 : 64 < z := by omega
    clear hz
    go_enter Tryz.func32, Tryz.ntmps32
    go_wp2_with (first | rw [HW1.out] | ((with_reducible refine store_gateK 28 ?_); refine wpList_store_mid rfl 28 _ _ rfl (w.heap.size + 2) 0 #[.int .i64 2, .string ⟨#[]⟩, .int .u64 m.gas] rfl rfl (HBX.out.don.there 0 _ (Nat.le_refl _)) infoDone (three_one _ _ _) ?_))
    have hf := HBX.out.don.whole (vs := [.int .i64 2, .string ⟨#[]⟩, .int .u64 m.gas]) rfl
    refine bodyPost_ret (results_cells rfl _ _ (w.heap.size + 2) [.int .i64 2, .string ⟨#[]⟩, .int .u64 m.gas] _ (by rfl) hf.range Tryz.underlying28 rfl infoDone) rfl ⟨rfl, below_sets (by omega) _ _ _ HBX.out.below⟩
theorem neq_words (a b : Nat) (ha : a < 256 ^ 32) (hb : b < 256 ^ 32) (W : World) : (binOp .neq 24 (.agg #[.int .u64 (limb a 0), .int .u64 (limb a 1), .int .u64 (limb a 2), .int .u64 (limb a 3)]) (.agg #[.int .u64 (limb b 0), .int .u64 (limb b 1), .int .u64 (limb b 2), .int .u64 (limb b 3)])).run Tryz.prog W = .ok (.bool (!decide (a = b))) W := by
  have h := eq_wordV ha hb W
  show ((do let r ← Op.equalIn 10000 24 (.agg #[.int .u64 (limb a 0), .int .u64 (limb a 1), .int .u64 (limb a 2), .int .u64 (limb a 3)]) (.agg #[.int .u64 (limb b 0), .int .u64 (limb b 1), .int .u64 (limb b 2), .int .u64 (limb b 3)]); pure (.bool !r)) : Sem Value).run Tryz.prog W = _
  unfold wordV at h
  simp only [Sem.run_bind, h, Result.andThen]
  rfl
set_option maxRecDepth 100000 in
set_option maxHeartbeats 6400000 in
theorem call_code (B : Nat) (S : StE) (org : ByteArray) (num : Nat) (m : MsgE) (w : World) (hs : StAt B w S) (hK : KecT w) (hu : S.undo = .slice none 0 0) (hz : m.depth ≤ 64) (hv : m.value = 0) (how : Nat) (out : List UInt8) (left : Nat)
    (HD : ∀ W, StAt B W S → KecT W → Calls Tryz.prog 59 #[.pointer (some ⟨B + 6, 0, none⟩), .agg #[.string org, .int .u64 num], .agg #[.string m.src, .string m.dst, .string m.who, .int .u64 (limb m.value 0), .int .u64 (limb m.value 1), .int .u64 (limb m.value 2), .int .u64 (limb m.value 3), .string ⟨m.data.toArray⟩, .int .u64 m.gas, .bool m.still, .int .i64 m.depth, .bool m.stays]] W fun e w' => e = .returned (.agg #[.int .i64 how, .string ⟨out.toArray⟩, .int .u64 left]) ∧ Below W.heap.size W w') :
    Calls Tryz.prog 32 #[.pointer (some ⟨B + 6, 0, none⟩), .agg #[.string org, .int .u64 num], .agg #[.string m.src, .string m.dst, .string m.who, .int .u64 (limb m.value 0), .int .u64 (limb m.value 1), .int .u64 (limb m.value 2), .int .u64 (limb m.value 3), .string ⟨m.data.toArray⟩, .int .u64 m.gas, .bool m.still, .int .i64 m.depth, .bool m.stays]] w fun e w' => e = .returned (.agg #[.int .i64 how, .string ⟨out.toArray⟩, .int .u64 left]) ∧ Below w.heap.size w w' := by
  have hbx := box_at w org num m
  obtain ⟨w1, hw1⟩ : ∃ W, boxW w org num m = W := ⟨_, rfl⟩
  rw [hw1] at hbx
  have HS1 := Lib.hid (hs.after hbx.below)
  have HK1 := Lib.hid (hK.below hbx.below)
  have c10 := hbx.msg.cell (j := 10) rfl
  have v0 : w1.cell? ⟨w.heap.size + 1, 3, none⟩ = some (.int .u64 0) := (hbx.msg.cell (j := 3) rfl).trans (by rw [hv, limb_nought]; rfl)
  have v1 : w1.cell? ⟨w.heap.size + 1, 4, none⟩ = some (.int .u64 0) := (hbx.msg.cell (j := 4) rfl).trans (by rw [hv, limb_nought]; rfl)
  have v2 : w1.cell? ⟨w.heap.size + 1, 5, none⟩ = some (.int .u64 0) := (hbx.msg.cell (j := 5) rfl).trans (by rw [hv, limb_nought]; rfl)
  have v3 : w1.cell? ⟨w.heap.size + 1, 6, none⟩ = some (.int .u64 0) := (hbx.msg.cell (j := 6) rfl).trans (by rw [hv, limb_nought]; rfl)
  have hne : ∀ W, (binOp .neq 24 (.agg #[.int .u64 0, .int .u64 0, .int .u64 0, .int .u64 0]) (.agg #[.int .u64 0, .int .u64 0, .int .u64 0, .int .u64 0])).run Tryz.prog W = .ok (.bool false) W := fun W => by
    have h := neq_words 0 0 (by decide) (by decide) W
    simp only [limb_nought] at h
    exact h
  have HBX := Lib.hid hbx
  have HW1 := Lib.hid hw1
  have HDD := Lib.hid HD
  have k1 : ¬ ((m.depth : Int) < 0) := by omega
  have k2 : ¬ ((64 : Int) < m.depth) := by omega
  have HU := Lib.hid hu
  have HMK := Lib.hid (fun W (h : StAt B W S) => mark_any B S 0 W h none 0 hu)
  clear hbx hw1 hs hK HD hu hz hv
  unfold boxW at HW1
  go_enter Tryz.func32, Tryz.ntmps32
  go_wp2_with (rw [HW1.out])
  refine (HMK.out _ HS1.out).mono ?_
  rintro e w2 ⟨rfl, rfl⟩
  go_wp2_with (first | ((with_reducible refine load_gateK 43 ?_); refine wpList_load_midK rfl 43 _ rfl (w.heap.size + 1) 0 rfl (msgC m) _ HBX.out.msg.range Tryz.underlying43 rfl infoMsg ?_) | ((with_reducible refine load_gateK 41 ?_); refine wpList_load_midK rfl 41 _ rfl w.heap.size 0 rfl (envC org num) _ HBX.out.env.range Tryz.underlying41 rfl infoEnv ?_))
  refine (HDD.out _ HS1.out HK1.out).mono ?_
  rintro e w3 ⟨rfl, hb3⟩
  have HX3 := Lib.hid (HBX.out.after hb3)
  have HS3 := Lib.hid (HS1.out.after hb3)
  have HZ3 := Lib.hid (HasCells.new w3 [.int .i64 0, .string ⟨#[]⟩, .int .u64 0] 28)
  obtain ⟨w4, hw4⟩ : ∃ W, (w3.alloc (.cells #[.int .i64 0, .string ⟨#[]⟩, .int .u64 0] 28)).setCells w3.heap.size 0 [.int .i64 how, .string ⟨out.toArray⟩, .int .u64 left] = W := ⟨_, rfl⟩
  have HT4 := Lib.hid (show HasCells w4 w3.heap.size [.int .i64 how, .string ⟨out.toArray⟩, .int .u64 left] 28 from by rw [← hw4]; exact HZ3.out.whole rfl)
  have hb4 : Below w3.heap.size w3 w4 := by rw [← hw4]; exact below_sets (Nat.le_refl _) _ _ _ ((Below.refl _ _).alloc (Nat.le_refl _) _)
  have HX4 := Lib.hid (HX3.out.after hb4)
  have HS4 := Lib.hid (HS3.out.after hb4)
  have HW4 := Lib.hid hw4
  clear hb3 hb4 hw4 v0 v1 v2 v3 c10
  have c0 := HT4.out.cell (j := 0) rfl
  by_cases h0 : how = 0
  · have h2 : ((how : Int) == 0) = true := by rw [h0]; rfl
    clear h0
    go_wp2_with (first | ((with_reducible refine store_gateK 28 ?_); refine wpList_store_mid rfl 28 _ _ rfl w3.heap.size 0 #[.int .i64 how, .string ⟨out.toArray⟩, .int .u64 left] rfl rfl (HZ3.out.there 0 _ (Nat.le_refl _)) infoDone (three_one _ _ _) ?_; rw [show ((#[.int .i64 how, .string ⟨out.toArray⟩, .int .u64 left] : Array Value)).toList = [.int .i64 how, .string ⟨out.toArray⟩, .int .u64 left] from rfl, HW4.out]) | ((with_reducible refine load_gateK 28 ?_); refine wpList_load_midK rfl 28 _ rfl w3.heap.size 0 rfl [.int .i64 how, .string ⟨out.toArray⟩, .int .u64 left] _ HT4.out.range Tryz.underlying28 rfl infoDone ?_) | ((with_reducible refine store_gateK 28 ?_); refine wpList_store_mid rfl 28 _ _ rfl (w.heap.size + 2) 0 #[.int .i64 how, .string ⟨out.toArray⟩, .int .u64 left] rfl rfl (HX4.out.don.there 0 _ (Nat.le_refl _)) infoDone (three_one _ _ _) ?_))
    have hf := HX4.out.don.whole (vs := [.int .i64 how, .string ⟨out.toArray⟩, .int .u64 left]) rfl
    refine bodyPost_ret (results_cells rfl _ _ (w.heap.size + 2) [.int .i64 how, .string ⟨out.toArray⟩, .int .u64 left] _ (by rfl) hf.range Tryz.underlying28 rfl infoDone) rfl ⟨rfl, below_sets (by omega) _ _ _ HX4.out.below⟩
  · have h1 : ¬ ((how : Int) = 0) := by omega
    have h2 : ((how : Int) == 0) = false := beq_eq_false_iff_ne.2 h1
    go_wp2_with ((with_reducible refine store_gateK 28 ?_); refine wpList_store_mid rfl 28 _ _ rfl w3.heap.size 0 #[.int .i64 how, .string ⟨out.toArray⟩, .int .u64 left] rfl rfl (HZ3.out.there 0 _ (Nat.le_refl _)) infoDone (three_one _ _ _) ?_; rw [show ((#[.int .i64 how, .string ⟨out.toArray⟩, .int .u64 left] : Array Value)).toList = [.int .i64 how, .string ⟨out.toArray⟩, .int .u64 left] from rfl, HW4.out])
    refine (back_none B S w4 HS4.out HU.out).mono ?_
    rintro e w5 ⟨rfl, hb5⟩
    have HX5 := Lib.hid (HX4.out.after hb5)
    have HT5 := Lib.hid (HT4.out.after hb5)
    clear hb5 c0
    go_wp2_with (first | ((with_reducible refine load_gateK 28 ?_); refine wpList_load_midK rfl 28 _ rfl w3.heap.size 0 rfl [.int .i64 how, .string ⟨out.toArray⟩, .int .u64 left] _ HT5.out.range Tryz.underlying28 rfl infoDone ?_) | ((with_reducible refine store_gateK 28 ?_); refine wpList_store_mid rfl 28 _ _ rfl (w.heap.size + 2) 0 #[.int .i64 how, .string ⟨out.toArray⟩, .int .u64 left] rfl rfl (HX5.out.don.there 0 _ (Nat.le_refl _)) infoDone (three_one _ _ _) ?_))
    have hf := HX5.out.don.whole (vs := [.int .i64 how, .string ⟨out.toArray⟩, .int .u64 left]) rfl
    refine bodyPost_ret (results_cells rfl _ _ (w.heap.size + 2) [.int .i64 how, .string ⟨out.toArray⟩, .int .u64 left] _ (by rfl) hf.range Tryz.underlying28 rfl infoDone) rfl ⟨rfl, below_sets (by omega) _ _ _ HX5.out.below⟩
end Go.Proofs.YtlelgbmbmajfmaaGreatDoor

namespace Go.Proofs.YtlelgbmbmajfmaaGreatDoor
open Go.RowKit Go.Shelf Go.Lib
attribute [local go_sem] Oper.semAt_some
theorem make_gate {P : Program} {ops : Array Oper} {Q : Exit → Act → World → Prop} {rest : List Oper} {a : Act} {w : World} {d : Option Tmp} {x y : Operand} {ty : TypeId} {pos : String} {af : Array Edge} {g : Option (Nat × Bool)} (T : TypeId)
    (h : wpList P ops Q (Oper.mk d (Op.makeSlice T x y) ty pos af g :: rest) a w) : wpList P ops Q (Oper.mk d (Op.makeSlice T x y) ty pos af g :: rest) a w := h
def zero32 : ByteArray := ⟨(List.replicate 32 0).toArray⟩
def acctK (a c : ByteArray) : KnE := ⟨a, true, 0, 0, kecB [128], zero32, true, c, .slice none 0 0⟩
theorem k12_one (a h c : ByteArray) : (#[.string a, .bool true, .int .u64 (0 : Nat), .int .u64 (limb 0 0), .int .u64 (limb 0 1), .int .u64 (limb 0 2), .int .u64 (limb 0 3), .string (kecB [128]), .string h, .bool true, .string c, .slice none 0 0] : Array Value).all (·.oneCell') = true := by simp [Value.oneCell']
set_option maxRecDepth 100000 in
set_option maxHeartbeats 6400000 in
theorem account_any (a c : ByteArray) (w : World) : Calls Tryz.prog 34 #[.string a, .string c] w fun e w' => e = .returned (.agg (kcells (acctK a c)).toArray) ∧ Below w.heap.size w w' := by
  obtain ⟨h, hh⟩ : ∃ h, kecB [] = h := ⟨_, rfl⟩
  have HEM := Lib.hid (fun W => emptyRef_any W)
  unfold acctV at HEM
  rw [hh] at HEM
  obtain ⟨Z, hZ⟩ : ∃ Z, (⟨(List.replicate 32 0).toArray⟩ : ByteArray) = Z := ⟨_, rfl⟩
  have HZV := Lib.hid hZ
  clear hZ
  have HZ1 := Lib.hid (HasCells.new w [.string ⟨#[]⟩, .bool false, .int .u64 0, .int .u64 0, .int .u64 0, .int .u64 0, .int .u64 0, .string ⟨#[]⟩, .string ⟨#[]⟩, .bool false, .string ⟨#[]⟩, .slice none 0 0] 52)
  obtain ⟨w1, hw1⟩ : ∃ W, w.alloc (.cells #[.string ⟨#[]⟩, .bool false, .int .u64 0, .int .u64 0, .int .u64 0, .int .u64 0, .int .u64 0, .string ⟨#[]⟩, .string ⟨#[]⟩, .bool false, .string ⟨#[]⟩, .slice none 0 0] 52) = W := ⟨_, rfl⟩
  rw [show w.alloc (.cells ([.string ⟨#[]⟩, .bool false, .int .u64 0, .int .u64 0, .int .u64 0, .int .u64 0, .int .u64 0, .string ⟨#[]⟩, .string ⟨#[]⟩, .bool false, .string ⟨#[]⟩, .slice none 0 0] : List Value).toArray 52) = w1 from hw1] at HZ1
  have HB1 := Lib.hid (show Below w.heap.size w w1 from by rw [← hw1]; exact (Below.refl _ _).alloc (Nat.le_refl _) _)
  have HW1 := Lib.hid hw1
  clear hw1
  go_enter Tryz.func34, Tryz.ntmps34
  go_wp2_with (rw [HW1.out])
  refine (HEM.out _).mono ?_
  rintro e w2 ⟨rfl, hb2⟩
  have HB2 := Lib.hid (HB1.out.trans (hb2.mono HB1.out.size))
  have HZ2 := Lib.hid (HZ1.out.after hb2)
  have HN2 := Lib.hid (HasCells.new w2 [.string ⟨#[]⟩, .bool false, .int .u64 0, .int .u64 0, .int .u64 0, .int .u64 0, .int .u64 0, .string ⟨#[]⟩, .string ⟨#[]⟩, .bool false, .string ⟨#[]⟩, .slice none 0 0] 52)
  obtain ⟨w3, hw3⟩ : ∃ W, (w2.alloc (.cells #[.string ⟨#[]⟩, .bool false, .int .u64 0, .int .u64 0, .int .u64 0, .int .u64 0, .int .u64 0, .string ⟨#[]⟩, .string ⟨#[]⟩, .bool false, .string ⟨#[]⟩, .slice none 0 0] 52)).setCells w2.heap.size 0 [.string a, .bool true, .int .u64 (0 : Nat), .int .u64 (limb 0 0), .int .u64 (limb 0 1), .int .u64 (limb 0 2), .int .u64 (limb 0 3), .string (kecB [128]), .string h, .bool true, .string c, .slice none 0 0] = W := ⟨_, rfl⟩
  have HT3 := Lib.hid (show HasCells w3 w2.heap.size [.string a, .bool true, .int .u64 (0 : Nat), .int .u64 (limb 0 0), .int .u64 (limb 0 1), .int .u64 (limb 0 2), .int .u64 (limb 0 3), .string (kecB [128]), .string h, .bool true, .string c, .slice none 0 0] 52 from by rw [← hw3]; exact HN2.out.whole rfl)
  have hb3 : Below w2.heap.size w2 w3 := by rw [← hw3]; exact below_sets (Nat.le_refl _) _ _ _ ((Below.refl _ _).alloc (Nat.le_refl _) _)
  have HB3 := Lib.hid (HB2.out.trans (hb3.mono HB2.out.size))
  have HZ3 := Lib.hid (HZ2.out.after hb3)
  have HW3 := Lib.hid hw3
  clear hb2 hb3 hw3
  go_wp2_with (first | ((with_reducible refine store_gateK 52 ?_); refine wpList_store_mid rfl 52 _ _ rfl w2.heap.size 0 #[.string a, .bool true, .int .u64 (0 : Nat), .int .u64 (limb 0 0), .int .u64 (limb 0 1), .int .u64 (limb 0 2), .int .u64 (limb 0 3), .string (kecB [128]), .string h, .bool true, .string c, .slice none 0 0] rfl rfl (HN2.out.there 0 _ (Nat.le_refl _)) infoKn (k12_one _ _ _) ?_; rw [show ((#[.string a, .bool true, .int .u64 (0 : Nat), .int .u64 (limb 0 0), .int .u64 (limb 0 1), .int .u64 (limb 0 2), .int .u64 (limb 0 3), .string (kecB [128]), .string h, .bool true, .string c, .slice none 0 0] : Array Value)).toList = [.string a, .bool true, .int .u64 (0 : Nat), .int .u64 (limb 0 0), .int .u64 (limb 0 1), .int .u64 (limb 0 2), .int .u64 (limb 0 3), .string (kecB [128]), .string h, .bool true, .string c, .slice none 0 0] from rfl, HW3.out]) | ((with_reducible refine make_gate 55 ?_); refine wpList_makeB rfl _ _ 55 rfl w3.heap.size 5 Tryz.underlying55 infoByteK 32 32 32 rfl rfl rfl rfl (by decide) (Nat.le_refl _) ?_; intro w4 ho4 hg4; have hst4 := ho4.str (src := 55) (dst := 9) Tryz.underlying55 Tryz.underlying5 Tryz.underlying9; have hb4 : Below w3.heap.size w3 w4 := ⟨hg4.os, hg4.tape, hg4.output, hg4.size, fun k hk => hg4.block k hk (fun e => by cases e)⟩; have HB4 := Lib.hid (HB3.out.trans (hb4.mono HB3.out.size)); have HT4 := Lib.hid (HT3.out.after hb4); have HZ4 := Lib.hid (HZ3.out.after hb4); have c8 := HT4.out.cell (j := 8) rfl; have i8 := HT4.out.frozen 8; rw [HZV.out] at hst4; obtain ⟨w5, hw5⟩ : ∃ W, w4.setCell ⟨w2.heap.size, 8, none⟩ (.string Z) = W := ⟨_, rfl⟩; have HT5 := Lib.hid (show HasCells w5 w2.heap.size [.string a, .bool true, .int .u64 (0 : Nat), .int .u64 (limb 0 0), .int .u64 (limb 0 1), .int .u64 (limb 0 2), .int .u64 (limb 0 3), .string (kecB [128]), .string Z, .bool true, .string c, .slice none 0 0] 52 from by rw [← hw5]; exact HT4.out.set 8 _); have hb5 : Below w2.heap.size w4 w5 := (by rw [← hw5]; exact cellSet (Below.refl _ _) (Nat.le_refl _) 8 _); have HB5 := Lib.hid (HB4.out.trans (hb5.mono HB2.out.size)); have HZ5 := Lib.hid (HZ4.out.below hb5 HZ2.out.lt); have HW5 := Lib.hid hw5; clear ho4 hg4 hb4 hw5 hb5) | rw [HW5.out] | ((with_reducible refine load_gateK 52 ?_); refine wpList_load_midK rfl 52 _ rfl w2.heap.size 0 rfl [.string a, .bool true, .int .u64 (0 : Nat), .int .u64 (limb 0 0), .int .u64 (limb 0 1), .int .u64 (limb 0 2), .int .u64 (limb 0 3), .string (kecB [128]), .string Z, .bool true, .string c, .slice none 0 0] _ HT5.out.range Tryz.underlying52 rfl infoKn ?_) | ((with_reducible refine store_gateK 52 ?_); refine wpList_store_mid rfl 52 _ _ rfl w.heap.size 0 #[.string a, .bool true, .int .u64 (0 : Nat), .int .u64 (limb 0 0), .int .u64 (limb 0 1), .int .u64 (limb 0 2), .int .u64 (limb 0 3), .string (kecB [128]), .string Z, .bool true, .string c, .slice none 0 0] rfl rfl (HZ5.out.there 0 _ (Nat.le_refl _)) infoKn (k12_one _ _ _) ?_))
  have hf := HZ5.out.whole (vs := [.string a, .bool true, .int .u64 (0 : Nat), .int .u64 (limb 0 0), .int .u64 (limb 0 1), .int .u64 (limb 0 2), .int .u64 (limb 0 3), .string (kecB [128]), .string Z, .bool true, .string c, .slice none 0 0]) rfl
  refine bodyPost_ret (results_cells rfl _ _ w.heap.size [.string a, .bool true, .int .u64 (0 : Nat), .int .u64 (limb 0 0), .int .u64 (limb 0 1), .int .u64 (limb 0 2), .int .u64 (limb 0 3), .string (kecB [128]), .string Z, .bool true, .string c, .slice none 0 0] _ (by rfl) hf.range Tryz.underlying52 rfl infoKn) rfl ⟨by rw [← HZV.out]; rfl, below_sets (Nat.le_refl _) _ _ _ HB5.out⟩
end Go.Proofs.YtlelgbmbmajfmaaGreatDoor

namespace Go.Proofs.YtlelgbmbmajfmaaGreatDoor
open Go.RowKit Go.Shelf Go.Lib
/-- a frame at a place, with so much gas, stack, memory -/
def mkF (g : FrE) (gas pc : Nat) (st : List Nat) (mem : List UInt8) : FrE := { g with gas := gas, pc := pc, next := pc, stkL := st, mem := mem }
def canB (g : FrE) (op : UInt8) (tk pt c : Nat) : Bool := (opE g.code g.pc == op) && (infoE op == (tk, pt, c, true)) && decide (tk ≤ g.stkL.length) && decide (g.stkL.length - tk + pt ≤ 1024) && decide (c ≤ g.gas) && decide (g.gas < 18446744073709551616) && decide (g.code.length ≤ 1099511627776) && decide (g.pc ≤ 1099511627776)
theorem can_of {g : FrE} {op : UInt8} {tk pt c : Nat} (h : canB g op tk pt c = true) : Can g op tk pt c := by
  unfold canB at h
  simp only [Bool.and_eq_true, beq_iff_eq, decide_eq_true_eq] at h
  obtain ⟨⟨⟨⟨⟨⟨⟨h1, h2⟩, h3⟩, h4⟩, h5⟩, h6⟩, h7⟩, h8⟩ := h
  exact ⟨h1, h2, h3, h4, h5, h6, h7, h8⟩
def codeA : List UInt8 := [0x60, 0x02, 0x60, 0x03, 0x01, 0x5f, 0x52, 0x60, 0x20, 0x5f, 0xf3]
def codeB : List UInt8 := [0x5b, 0x5f, 0x56]
def msgA : MsgE := ⟨⟨#[]⟩, ⟨#[97]⟩, ⟨#[97]⟩, 0, [], 100, false, 0, false⟩
def msgB : MsgE := ⟨⟨#[]⟩, ⟨#[98]⟩, ⟨#[98]⟩, 0, [], 1000, false, 0, false⟩
def msgC0 : MsgE := ⟨⟨#[]⟩, ⟨#[99]⟩, ⟨#[99]⟩, 0, [], 1000, false, 0, false⟩
/-- code a: two and three -/
theorem run_a (p : Nat) (s tos : Value) (W : World) (h : Fra p W (frame0 s ⟨#[]⟩ 0 msgA codeA tos)) : RunTo p (fun W' f' => Below p W W' ∧ doneV f' = doneC 0 (be 32 5) 78) 8 W (frame0 s ⟨#[]⟩ 0 msgA codeA tos) := by
  obtain ⟨G, hG⟩ : ∃ G, nf (frame0 s ⟨#[]⟩ 0 msgA codeA tos) = G := ⟨_, rfl⟩
  have e0 : nf (frame0 s ⟨#[]⟩ 0 msgA codeA tos) = mkF (nf (frame0 s ⟨#[]⟩ 0 msgA codeA tos)) 100 0 [] [] := rfl
  have e1 : pushN (mkF (nf (frame0 s ⟨#[]⟩ 0 msgA codeA tos)) 100 0 [] []) 3 = mkF (nf (frame0 s ⟨#[]⟩ 0 msgA codeA tos)) 97 2 [2] [] := by kernel_rfl
  have e2 : pushN (mkF (nf (frame0 s ⟨#[]⟩ 0 msgA codeA tos)) 97 2 [2] []) 3 = mkF (nf (frame0 s ⟨#[]⟩ 0 msgA codeA tos)) 94 4 [2, 3] [] := by kernel_rfl
  have e3 : addN (mkF (nf (frame0 s ⟨#[]⟩ 0 msgA codeA tos)) 94 4 [2, 3] []) 3 = mkF (nf (frame0 s ⟨#[]⟩ 0 msgA codeA tos)) 91 5 [5] [] := by kernel_rfl
  have e4 : pushN (mkF (nf (frame0 s ⟨#[]⟩ 0 msgA codeA tos)) 91 5 [5] []) 2 = mkF (nf (frame0 s ⟨#[]⟩ 0 msgA codeA tos)) 89 6 [5, 0] [] := by kernel_rfl
  have e5 : mstoreN (mkF (nf (frame0 s ⟨#[]⟩ 0 msgA codeA tos)) 89 6 [5, 0] []) 3 = mkF (nf (frame0 s ⟨#[]⟩ 0 msgA codeA tos)) 83 7 [] (be 32 5) := by kernel_rfl
  have e6 : pushN (mkF (nf (frame0 s ⟨#[]⟩ 0 msgA codeA tos)) 83 7 [] (be 32 5)) 3 = mkF (nf (frame0 s ⟨#[]⟩ 0 msgA codeA tos)) 80 9 [32] (be 32 5) := by kernel_rfl
  have e7 : pushN (mkF (nf (frame0 s ⟨#[]⟩ 0 msgA codeA tos)) 80 9 [32] (be 32 5)) 2 = mkF (nf (frame0 s ⟨#[]⟩ 0 msgA codeA tos)) 78 10 [32, 0] (be 32 5) := by kernel_rfl
  have e8 : doneV (giveN (mkF (nf (frame0 s ⟨#[]⟩ 0 msgA codeA tos)) 78 10 [32, 0] (be 32 5)) 0) = doneC 0 (be 32 5) 78 := by kernel_rfl
  have e9 : (giveN (mkF (nf (frame0 s ⟨#[]⟩ 0 msgA codeA tos)) 78 10 [32, 0] (be 32 5)) 0).ended = true := by kernel_rfl
  have b1 : canB (mkF (nf (frame0 s ⟨#[]⟩ 0 msgA codeA tos)) 100 0 [] []) 0x60 0 1 3 = true := by kernel_rfl
  have b2 : canB (mkF (nf (frame0 s ⟨#[]⟩ 0 msgA codeA tos)) 97 2 [2] []) 0x60 0 1 3 = true := by kernel_rfl
  have b3 : canB (mkF (nf (frame0 s ⟨#[]⟩ 0 msgA codeA tos)) 94 4 [2, 3] []) 1 2 1 3 = true := by kernel_rfl
  have b4 : canB (mkF (nf (frame0 s ⟨#[]⟩ 0 msgA codeA tos)) 91 5 [5] []) 0x5f 0 1 2 = true := by kernel_rfl
  have b5 : canB (mkF (nf (frame0 s ⟨#[]⟩ 0 msgA codeA tos)) 89 6 [5, 0] []) 82 2 0 3 = true := by kernel_rfl
  have b6 : canB (mkF (nf (frame0 s ⟨#[]⟩ 0 msgA codeA tos)) 83 7 [] (be 32 5)) 0x60 0 1 3 = true := by kernel_rfl
  have b7 : canB (mkF (nf (frame0 s ⟨#[]⟩ 0 msgA codeA tos)) 80 9 [32] (be 32 5)) 0x5f 0 1 2 = true := by kernel_rfl
  have b8 : canB (mkF (nf (frame0 s ⟨#[]⟩ 0 msgA codeA tos)) 78 10 [32, 0] (be 32 5)) 243 2 0 0 = true := by kernel_rfl
  rw [hG] at e0 e1 e2 e3 e4 e5 e6 e7 e8 e9 b1 b2 b3 b4 b5 b6 b7 b8
  have hl : (be 32 5).length ≤ 131072 := by rw [be_length]; decide
  refine RunTo.next (go_push p _ _ W h (hG.trans e0) 0x60 3 (can_of b1) (by decide) (by decide) (by decide)) (by rw [e1, ← hG]; rfl) fun w1 f1 h1 k1 r1 => ?_
  refine RunTo.next (go_push p _ _ w1 r1 (h1.trans e1) 0x60 3 (can_of b2) (by decide) (by decide) (by decide)) (by rw [e2, ← hG]; rfl) fun w2 f2 h2 k2 r2 => ?_
  refine RunTo.next (go_add p _ _ w2 r2 (h2.trans e2) 3 (can_of b3)) (by rw [e3, ← hG]; rfl) fun w3 f3 h3 k3 r3 => ?_
  refine RunTo.next (go_push p _ _ w3 r3 (h3.trans e3) 0x5f 2 (can_of b4) (by decide) (by decide) (by decide)) (by rw [e4, ← hG]; rfl) fun w4 f4 h4 k4 r4 => ?_
  refine RunTo.next (go_mstore p _ _ w4 r4 (h4.trans e4) 3 (can_of b5) (Nat.zero_le _) (fun v hv => ?_)) (by rw [e5, ← hG]; rfl) fun w5 f5 h5 k5 r5 => ?_
  · simp only [mkF, List.mem_cons, List.not_mem_nil, or_false] at hv
    rcases hv with rfl | rfl <;> decide
  refine RunTo.next (go_push p _ _ w5 r5 (h5.trans e5) 0x60 3 (can_of b6) (by decide) (by decide) (by decide)) (by rw [e6, ← hG]; rfl) fun w6 f6 h6 k6 r6 => ?_
  refine RunTo.next (go_push p _ _ w6 r6 (h6.trans e6) 0x5f 2 (can_of b7) (by decide) (by decide) (by decide)) (by rw [e7, ← hG]; rfl) fun w7 f7 h7 k7 r7 => ?_
  refine RunTo.last (go_give p _ _ w7 r7 (h7.trans e7) 0 (can_of b8) hl (fun v hv => ?_)) e9 fun w8 f8 h8 k8 r8 => ?_
  · simp only [mkF, List.mem_cons, List.not_mem_nil, or_false] at hv
    rcases hv with rfl | rfl <;> decide
  refine ⟨k1.trans (k2.trans (k3.trans (k4.trans (k5.trans (k6.trans (k7.trans k8)))))), ?_⟩
  have hd : doneV f8 = doneV (nf f8) := rfl
  rw [hd, h8, e8]
/-- code b: a loop, round by round -/
theorem run_b (p : Nat) (s tos : Value) (W0 : World) : ∀ (j : Nat) (W : World) (f : FrE), j ≤ 90 → Below p W0 W → IntsAt W tos (jmpsC codeB) p → Fra p W f → nf f = mkF (nf (frame0 s ⟨#[]⟩ 0 msgB codeB tos)) (10 + 11 * j) 0 [] [] → RunTo p (fun W' f' => Below p W0 W' ∧ doneV f' = doneC 2 [] 0) (3 * j + 3) W f := by
  intro j
  induction j with
  | zero =>
    intro W f _ hb hto h hf
    refine RunTo.next (g := mkF (nf (frame0 s ⟨#[]⟩ 0 msgB codeB tos)) 9 1 [] []) (go_dest p f _ W h hf 1 (can_of (by kernel_rfl))) rfl fun w1 f1 h1 k1 r1 => ?_
    refine RunTo.next (g := mkF (nf (frame0 s ⟨#[]⟩ 0 msgB codeB tos)) 7 2 [0] []) (go_push p f1 _ w1 r1 h1 0x5f 2 (can_of (by kernel_rfl)) (by decide) (by decide) (by decide)) rfl fun w2 f2 h2 k2 r2 => ?_
    refine RunTo.last (g := failE (mkF (nf (frame0 s ⟨#[]⟩ 0 msgB codeB tos)) 7 2 [0] [])) (go_poor p f2 _ w2 r2 h2 0x56 1 0 8 (by kernel_rfl) (by kernel_rfl) (Nat.le_of_ble_eq_true (by kernel_rfl)) (Nat.le_of_ble_eq_true (by kernel_rfl)) (Nat.le_of_ble_eq_true (by kernel_rfl)) (Nat.le_of_ble_eq_true (by kernel_rfl)) (Nat.le_of_ble_eq_true (by kernel_rfl))) rfl fun w3 f3 h3 k3 r3 => ?_
    refine ⟨hb.trans (k1.trans (k2.trans k3)), ?_⟩
    have hd : doneV f3 = doneV (nf f3) := rfl
    rw [hd, h3]
    rfl
  | succ j ih =>
    intro W f hj hb hto h hf
    have q1 : 10 + 11 * (j + 1) = 11 * j + 21 := by omega
    rw [q1] at hf
    have hc1 : Can (mkF (nf (frame0 s ⟨#[]⟩ 0 msgB codeB tos)) (11 * j + 21) 0 [] []) 91 0 0 1 := ⟨by kernel_rfl, by kernel_rfl, Nat.le_refl _, Nat.zero_le _, by show 1 ≤ 11 * j + 21; omega, by show 11 * j + 21 < _; omega, Nat.le_of_ble_eq_true (by kernel_rfl), Nat.zero_le _⟩
    have hc2 : Can (mkF (nf (frame0 s ⟨#[]⟩ 0 msgB codeB tos)) (11 * j + 20) 1 [] []) 0x5f 0 1 2 := ⟨by kernel_rfl, by kernel_rfl, Nat.le_refl _, Nat.le_of_ble_eq_true (by kernel_rfl), by show 2 ≤ 11 * j + 20; omega, by show 11 * j + 20 < _; omega, Nat.le_of_ble_eq_true (by kernel_rfl), Nat.le_of_ble_eq_true (by kernel_rfl)⟩
    have hc3 : Can (mkF (nf (frame0 s ⟨#[]⟩ 0 msgB codeB tos)) (11 * j + 18) 2 [0] []) 86 1 0 8 := ⟨by kernel_rfl, by kernel_rfl, Nat.le_refl _, Nat.le_of_ble_eq_true (by kernel_rfl), by show 8 ≤ 11 * j + 18; omega, by show 11 * j + 18 < _; omega, Nat.le_of_ble_eq_true (by kernel_rfl), Nat.le_of_ble_eq_true (by kernel_rfl)⟩
    refine RunTo.next (g := mkF (nf (frame0 s ⟨#[]⟩ 0 msgB codeB tos)) (11 * j + 20) 1 [] []) (go_dest p f _ W h hf 1 hc1) rfl fun w1 f1 h1 k1 r1 => ?_
    refine RunTo.next (g := mkF (nf (frame0 s ⟨#[]⟩ 0 msgB codeB tos)) (11 * j + 18) 2 [0] []) (go_push p f1 _ w1 r1 h1 0x5f 2 hc2 (by decide) (by decide) (by decide)) rfl fun w2 f2 h2 k2 r2 => ?_
    have hto2 := (hto.below k1).below k2
    refine RunTo.next (g := mkF (nf (frame0 s ⟨#[]⟩ 0 msgB codeB tos)) (11 * j + 10) 0 [] []) (go_jump p f2 _ w2 r2 h2 8 0 0 (jmpsC codeB) hc3 rfl hto2 (jmpsC_rise _) (by kernel_rfl) (Nat.zero_le _) (Nat.le_of_ble_eq_true (by kernel_rfl))) rfl fun w3 f3 h3 k3 r3 => ?_
    exact ih w3 f3 (by omega) (hb.trans (k1.trans (k2.trans k3))) (hto2.below k3) r3 (by rw [h3, Nat.add_comm])
end Go.Proofs.YtlelgbmbmajfmaaGreatDoor

namespace Go.Proofs.YtlelgbmbmajfmaaGreatDoor
open Go.RowKit Go.Shelf Go.Lib
attribute [local go_sem] Oper.semAt_some
theorem zero32_ne : (zero32.toList == (kecB []).toList) = false := by
  rw [ByteArray.toList_eq, ByteArray.toList_eq]
  show (List.replicate 32 0 == keccakL []) = false
  rw [kecE]
  decide
def kA : KnE := acctK ⟨#[97]⟩ ⟨#[96, 2, 96, 3, 1, 95, 82, 96, 32, 95, 243]⟩
def kB : KnE := acctK ⟨#[98]⟩ ⟨#[91, 95, 86]⟩
def knL : List KnE := [kA, kB]
theorem acctK_ok (a c : ByteArray) : KnOk (acctK a c) := ⟨none, 0, 0, rfl⟩
theorem kn_a : (newS knL).kn ⟨#[97]⟩ = some kA := setF_same _ _ _
theorem kn_b : (newS knL).kn ⟨#[98]⟩ = some kB := by
  show setF (setF (fun _ => none) kB.addr kB) kA.addr kA (⟨#[98]⟩ : ByteArray) = _
  rw [setF_other _ _ (by decide)]
  exact setF_same _ _ _
theorem kn_c : (newS knL).kn ⟨#[99]⟩ = none := by
  show setF (setF (fun _ => none) kB.addr kB) kA.addr kA (⟨#[99]⟩ : ByteArray) = _
  rw [setF_other _ _ (by decide), setF_other _ _ (by decide)]
theorem code_of {S : StE} {a a2 c : ByteArray} (h : S.kn a = some (acctK a2 c)) : codeC S a = c ∧ codeN S a = 0 := by
  have hz : (!((acctK a2 c).hash.toList == (kecB []).toList)) = true := by rw [show (acctK a2 c).hash = zero32 from rfl, zero32_ne]; rfl
  unfold codeC codeN
  rw [h]
  dsimp only
  rw [hz]
  exact ⟨rfl, rfl⟩
theorem show_x (B : Nat) (w : World) (hs : StAt B w (newS knL)) (hK : KecT w) : Calls Tryz.prog 32 #[.pointer (some ⟨B + 6, 0, none⟩), .agg #[.string ⟨#[]⟩, .int .u64 0], .agg #[.string ⟨#[]⟩, .string ⟨#[97]⟩, .string ⟨#[97]⟩, .int .u64 0, .int .u64 0, .int .u64 0, .int .u64 0, .string ⟨#[]⟩, .int .u64 100, .bool false, .int .i64 0, .bool false]] w fun e w' => e = .returned (.agg #[.int .i64 0, .string ⟨(be 32 5).toArray⟩, .int .u64 78]) ∧ Below w.heap.size w w' := by
  refine call_code B (newS knL) ⟨#[]⟩ 0 msgA w hs hK rfl (by decide) rfl 0 (be 32 5) 78 (fun W hsW hkW => ?_)
  refine (done_code B (newS knL) ⟨#[]⟩ 0 msgA W hsW hkW (fun k hk => by rw [show msgA.who = ⟨#[97]⟩ from rfl, kn_a] at hk; cases hk; exact acctK_ok _ _) (by decide) (Nat.zero_le _) (code_of kn_a).2 codeA (code_of kn_a).1 (by decide) (fun _ f' => doneV f' = doneC 0 (be 32 5) 78) 8 (fun p tos W1 _ _ _ _ hF => run_a p _ tos W1 hF)).mono ?_
  rintro e w' ⟨W', f', hd, rfl, hb⟩
  exact ⟨by rw [hd]; rfl, hb⟩
theorem show_y (B : Nat) (w : World) (hs : StAt B w (newS knL)) (hK : KecT w) : Calls Tryz.prog 32 #[.pointer (some ⟨B + 6, 0, none⟩), .agg #[.string ⟨#[]⟩, .int .u64 0], .agg #[.string ⟨#[]⟩, .string ⟨#[98]⟩, .string ⟨#[98]⟩, .int .u64 0, .int .u64 0, .int .u64 0, .int .u64 0, .string ⟨#[]⟩, .int .u64 1000, .bool false, .int .i64 0, .bool false]] w fun e w' => e = .returned (.agg #[.int .i64 2, .string ⟨#[]⟩, .int .u64 0]) ∧ Below w.heap.size w w' := by
  refine call_code B (newS knL) ⟨#[]⟩ 0 msgB w hs hK rfl (by decide) rfl 2 [] 0 (fun W hsW hkW => ?_)
  refine (done_code B (newS knL) ⟨#[]⟩ 0 msgB W hsW hkW (fun k hk => by rw [show msgB.who = ⟨#[98]⟩ from rfl, kn_b] at hk; cases hk; exact acctK_ok _ _) (by decide) (Nat.zero_le _) (code_of kn_b).2 codeB (code_of kn_b).1 (by decide) (fun _ f' => doneV f' = doneC 2 [] 0) (3 * 90 + 3) (fun p tos W1 _ _ _ ht hF => run_b p _ tos W1 90 W1 _ (Nat.le_refl _) (Below.refl _ _) ht hF rfl)).mono ?_
  rintro e w' ⟨W', f', hd, rfl, hb⟩
  exact ⟨by rw [hd]; rfl, hb⟩
theorem show_z (B : Nat) (w : World) (hs : StAt B w (newS knL)) (hK : KecT w) : Calls Tryz.prog 32 #[.pointer (some ⟨B + 6, 0, none⟩), .agg #[.string ⟨#[]⟩, .int .u64 0], .agg #[.string ⟨#[]⟩, .string ⟨#[99]⟩, .string ⟨#[99]⟩, .int .u64 0, .int .u64 0, .int .u64 0, .int .u64 0, .string ⟨#[]⟩, .int .u64 1000, .bool false, .int .i64 0, .bool false]] w fun e w' => e = .returned (.agg #[.int .i64 3, .string ⟨#[]⟩, .int .u64 0]) ∧ Below w.heap.size w w' := by
  refine call_code B (newS knL) ⟨#[]⟩ 0 msgC0 w hs hK rfl (by decide) rfl 3 [] 0 (fun W hsW hkW => ?_)
  exact done_miss B (newS knL) ⟨#[]⟩ 0 msgC0 W hsW hkW (fun k hk => by rw [show msgC0.who = ⟨#[99]⟩ from rfl, kn_c] at hk; cases hk) (by decide) (Nat.zero_le _) (by unfold codeN; rw [show msgC0.who = ⟨#[99]⟩ from rfl, kn_c])
theorem done3 (w : World) (v1 : Int) (v2 : ByteArray) (v3 : Int) : ∃ W, (w.alloc (.cells #[.int .i64 0, .string ⟨#[]⟩, .int .u64 0] 28)).setCells w.heap.size 0 [.int .i64 v1, .string v2, .int .u64 v3] = W ∧ HasCells W w.heap.size [.int .i64 v1, .string v2, .int .u64 v3] 28 ∧ Below w.heap.size w W :=
  ⟨_, rfl, (HasCells.new w [.int .i64 0, .string ⟨#[]⟩, .int .u64 0] 28).whole rfl, below_sets (Nat.le_refl _) _ _ _ ((Below.refl _ _).alloc (Nat.le_refl _) _)⟩
set_option maxRecDepth 100000 in
set_option maxHeartbeats 6400000 in
theorem shown_any (w : World) (hK : KecT w) : Calls Tryz.prog 17 #[] w fun e w' => e = .returned (.bool true) ∧ Below w.heap.size w w' := by
  have HKT := Lib.hid hK
  obtain ⟨Z, hZ⟩ : ∃ Z, zero32 = Z := ⟨_, rfl⟩
  obtain ⟨R, hR⟩ : ∃ R, kecB [128] = R := ⟨_, rfl⟩
  have HAC := Lib.hid (show ∀ a c W, Calls Tryz.prog 34 #[.string a, .string c] W fun e w' => e = .returned (.agg #[.string a, .bool true, .int .u64 0, .int .u64 0, .int .u64 0, .int .u64 0, .int .u64 0, .string R, .string Z, .bool true, .string c, .slice none 0 0]) ∧ Below W.heap.size W w' from fun a c W => by
    rw [← hZ, ← hR]
    have h := account_any a c W
    rw [show kcells (acctK a c) = ([.string a, .bool true, .int .u64 0, .int .u64 0, .int .u64 0, .int .u64 0, .int .u64 0, .string (kecB [128]), .string zero32, .bool true, .string c, .slice none 0 0] : List Value) from by show ([.string a, .bool true, .int .u64 (0 : Nat), .int .u64 (limb 0 0), .int .u64 (limb 0 1), .int .u64 (limb 0 2), .int .u64 (limb 0 3), .string (kecB [128]), .string zero32, .bool true, .string c, .slice none 0 0] : List Value) = _; simp only [limb_nought]; rfl] at h
    exact h)
  have HL := Lib.hid (show knL.flatMap kcells = [.string ⟨#[97]⟩, .bool true, .int .u64 0, .int .u64 0, .int .u64 0, .int .u64 0, .int .u64 0, .string R, .string Z, .bool true, .string ⟨#[96, 2, 96, 3, 1, 95, 82, 96, 32, 95, 243]⟩, .slice none 0 0, .string ⟨#[98]⟩, .bool true, .int .u64 0, .int .u64 0, .int .u64 0, .int .u64 0, .int .u64 0, .string R, .string Z, .bool true, .string ⟨#[91, 95, 86]⟩, .slice none 0 0] from by
    rw [← hZ, ← hR]
    show ([.string ⟨#[97]⟩, .bool true, .int .u64 (0 : Nat), .int .u64 (limb 0 0), .int .u64 (limb 0 1), .int .u64 (limb 0 2), .int .u64 (limb 0 3), .string (kecB [128]), .string zero32, .bool true, .string ⟨#[96, 2, 96, 3, 1, 95, 82, 96, 32, 95, 243]⟩, .slice none 0 0, .string ⟨#[98]⟩, .bool true, .int .u64 (0 : Nat), .int .u64 (limb 0 0), .int .u64 (limb 0 1), .int .u64 (limb 0 2), .int .u64 (limb 0 3), .string (kecB [128]), .string zero32, .bool true, .string ⟨#[91, 95, 86]⟩, .slice none 0 0] : List Value) = _
    simp only [limb_nought]
    rfl)
  clear hK hZ hR
  go_enter Tryz.func17, Tryz.ntmps17
  go_wp2_with fail
  refine (HAC.out _ _ _).mono ?_
  rintro e w1 ⟨rfl, hb1⟩
  have HB1 := Lib.hid hb1
  clear hb1
  go_wp2_with fail
  refine (HAC.out _ _ _).mono ?_
  rintro e w2 ⟨rfl, hb2⟩
  have HB2 := Lib.hid (HB1.out.trans (hb2.mono HB1.out.size))
  clear hb2
  go_wp2_with fail
  obtain ⟨w3, hw3⟩ : ∃ W, w2.alloc (.cells #[.string ⟨#[97]⟩, .bool true, .int .u64 0, .int .u64 0, .int .u64 0, .int .u64 0, .int .u64 0, .string R, .string Z, .bool true, .string ⟨#[96, 2, 96, 3, 1, 95, 82, 96, 32, 95, 243]⟩, .slice none 0 0, .string ⟨#[98]⟩, .bool true, .int .u64 0, .int .u64 0, .int .u64 0, .int .u64 0, .int .u64 0, .string R, .string Z, .bool true, .string ⟨#[91, 95, 86]⟩, .slice none 0 0] 52) = W := ⟨_, rfl⟩
  have HN := Lib.hid (show HasCells w3 w2.heap.size (knL.flatMap kcells) 52 from by rw [← hw3, HL.out]; exact HasCells.new w2 _ 52)
  have HB3 := Lib.hid (show Below w.heap.size w w3 from by rw [← hw3]; exact HB2.out.alloc HB2.out.size _)
  have HKN3 := Lib.hid (show KnAt w3 (.slice (some ⟨w2.heap.size, 0, none⟩) 2 2) knL from .inr ⟨_, 2, rfl, Nat.le_refl _, HN.out.lt, HN.out.range⟩)
  have HNW := Lib.hid (fun W (h : KnAt W (.slice (some ⟨w2.heap.size, 0, none⟩) 2 2) knL) => new_any (.slice (some ⟨w2.heap.size, 0, none⟩) 2 2) knL W h (fun k hk => by
    rcases List.mem_cons.1 hk with rfl | hk
    · exact acctK_ok _ _
    · rw [List.mem_singleton] at hk; subst hk; exact acctK_ok _ _) (by decide))
  rw [hw3]
  clear hw3 HN
  refine (HNW.out _ (HKN3.out)).mono ?_
  rintro e a3 ⟨rfl, hs, hb⟩
  have HS3 := Lib.hid hs
  have HA3 := Lib.hid (HB3.out.trans (hb.mono HB3.out.size))
  have HKA3 := Lib.hid (HKN3.out.after hb)
  clear hs hb
  go_wp2_with fail
  refine (show_x _ _ HS3.out (HKT.out.below HA3.out)).mono ?_
  rintro e b3 ⟨rfl, hb⟩
  obtain ⟨d3, hd, ht, hbd⟩ := done3 b3 0 ⟨(be 32 5).toArray⟩ 78
  have HD3 := Lib.hid hd
  have HT3 := Lib.hid ht
  have HZ3 := Lib.hid (HasCells.new b3 [.int .i64 0, .string ⟨#[]⟩, .int .u64 0] 28)
  have HB4 := Lib.hid (HA3.out.trans ((hb.trans (hbd.mono hb.size)).mono HA3.out.size))
  have HKN4 := Lib.hid ((HKA3.out.after hb).after hbd)
  clear hd ht hb hbd
  go_wp2_with ((with_reducible refine store_gateK 28 ?_); refine wpList_store_mid rfl 28 _ _ rfl b3.heap.size 0 #[.int .i64 0, .string ⟨(be 32 5).toArray⟩, .int .u64 78] rfl rfl (HZ3.out.there 0 _ (Nat.le_refl _)) infoDone (three_one _ _ _) ?_; rw [show ((#[.int .i64 0, .string ⟨(be 32 5).toArray⟩, .int .u64 78] : Array Value)).toList = [.int .i64 0, .string ⟨(be 32 5).toArray⟩, .int .u64 78] from rfl, HD3.out])
  refine (HNW.out _ (HKN4.out)).mono ?_
  rintro e a4 ⟨rfl, hs, hb⟩
  have HS4 := Lib.hid hs
  have HA4 := Lib.hid (HB4.out.trans (hb.mono HB4.out.size))
  have HKA4 := Lib.hid (HKN4.out.after hb)
  have HT3a := Lib.hid (HT3.out.after hb)
  clear hs hb
  go_wp2_with fail
  refine (show_y _ _ HS4.out (HKT.out.below HA4.out)).mono ?_
  rintro e b4 ⟨rfl, hb⟩
  obtain ⟨d4, hd, ht, hbd⟩ := done3 b4 2 ⟨#[]⟩ 0
  have HD4 := Lib.hid hd
  have HT4 := Lib.hid ht
  have HZ4 := Lib.hid (HasCells.new b4 [.int .i64 0, .string ⟨#[]⟩, .int .u64 0] 28)
  have HB5 := Lib.hid (HA4.out.trans ((hb.trans (hbd.mono hb.size)).mono HA4.out.size))
  have HKN5 := Lib.hid ((HKA4.out.after hb).after hbd)
  have HT3x := Lib.hid ((HT3a.out.after hb).after hbd)
  clear hd ht hb hbd
  go_wp2_with ((with_reducible refine store_gateK 28 ?_); refine wpList_store_mid rfl 28 _ _ rfl b4.heap.size 0 #[.int .i64 2, .string ⟨#[]⟩, .int .u64 0] rfl rfl (HZ4.out.there 0 _ (Nat.le_refl _)) infoDone (three_one _ _ _) ?_; rw [show ((#[.int .i64 2, .string ⟨#[]⟩, .int .u64 0] : Array Value)).toList = [.int .i64 2, .string ⟨#[]⟩, .int .u64 0] from rfl, HD4.out])
  refine (HNW.out _ (HKN5.out)).mono ?_
  rintro e a5 ⟨rfl, hs, hb⟩
  have HS5 := Lib.hid hs
  have HA5 := Lib.hid (HB5.out.trans (hb.mono HB5.out.size))
  have HKA5 := Lib.hid (HKN5.out.after hb)
  have HT3a := Lib.hid (HT3x.out.after hb)
  have HT4a := Lib.hid (HT4.out.after hb)
  clear hs hb
  go_wp2_with fail
  refine (show_z _ _ HS5.out (HKT.out.below HA5.out)).mono ?_
  rintro e b5 ⟨rfl, hb⟩
  obtain ⟨d5, hd, ht, hbd⟩ := done3 b5 3 ⟨#[]⟩ 0
  have HD5 := Lib.hid hd
  have HT5 := Lib.hid ht
  have HZ5 := Lib.hid (HasCells.new b5 [.int .i64 0, .string ⟨#[]⟩, .int .u64 0] 28)
  have HB6 := Lib.hid (HA5.out.trans ((hb.trans (hbd.mono hb.size)).mono HA5.out.size))
  have HKN6 := Lib.hid ((HKA5.out.after hb).after hbd)
  have HT3x := Lib.hid ((HT3a.out.after hb).after hbd)
  have HT4x := Lib.hid ((HT4a.out.after hb).after hbd)
  clear hd ht hb hbd
  go_wp2_with ((with_reducible refine store_gateK 28 ?_); refine wpList_store_mid rfl 28 _ _ rfl b5.heap.size 0 #[.int .i64 3, .string ⟨#[]⟩, .int .u64 0] rfl rfl (HZ5.out.there 0 _ (Nat.le_refl _)) infoDone (three_one _ _ _) ?_; rw [show ((#[.int .i64 3, .string ⟨#[]⟩, .int .u64 0] : Array Value)).toList = [.int .i64 3, .string ⟨#[]⟩, .int .u64 0] from rfl, HD5.out])
  try simp only [Act.put, zq]
  have HSA := Lib.hid (And.intro (HT3x.out.cell (j := 0) rfl) (And.intro (HT3x.out.cell (j := 1) rfl) (And.intro (HT3x.out.cell (j := 2) rfl) (And.intro (HT4x.out.cell (j := 0) rfl) (And.intro (HT4x.out.cell (j := 2) rfl) (HT5.out.cell (j := 0) rfl))))))
  have hbb : ((⟨(be 32 5).toArray⟩ : ByteArray).toList == (⟨(be 32 5).toArray⟩ : ByteArray).toList) = true := beq_self_eq_true _
  have HWB := Lib.hid (show ∀ W, Calls Tryz.prog 12 #[.agg #[.int .u64 5, .int .u64 0, .int .u64 0, .int .u64 0]] W fun e w' => e = .returned (.string ⟨(be 32 5).toArray⟩) ∧ Below W.heap.size W w' from fun W => wordBytes_any 5 W)
  refine wp_region_held_drew (S := (fun W => W.cell? ⟨b3.heap.size, 0, none⟩ = some (.int .i64 0) ∧ W.cell? ⟨b3.heap.size, 1, none⟩ = some (.string ⟨(be 32 5).toArray⟩) ∧ W.cell? ⟨b3.heap.size, 2, none⟩ = some (.int .u64 78) ∧ W.cell? ⟨b4.heap.size, 0, none⟩ = some (.int .i64 2) ∧ W.cell? ⟨b4.heap.size, 2, none⟩ = some (.int .u64 0) ∧ W.cell? ⟨b5.heap.size, 0, none⟩ = some (.int .i64 3))) (by kernel_rfl) (HSA.out) (fun hHeld => ?_)
  refine hT 0 ?_
  refine hD 1 ?_
  refine hT 2 ?_
  refine hT 3 ?_
  refine hT 4 ?_
  refine hD 5 ?_
  refine wpAnyH_ready (rs := [6]) (by kernel_rfl) (by simp) ?_
  refine AllReadyH.cons rfl (fun K hK => ?_) AllReadyH.nil
  go_simp
  go_at_call 45
  refine (of_any 5 _).mono ?_
  rintro e w7 ⟨rfl, hb7⟩
  have hb7 := (Below.refl _ d5).drew.trans hb7
  have HB7 := Lib.hid (HB6.out.trans (hb7.mono HB6.out.size))
  have HT3p := Lib.hid (HT3x.out.after hb7)
  have HT4p := Lib.hid (HT4x.out.after hb7)
  have HT5p := Lib.hid (HT5.out.after hb7)
  clear hb7
  refine hK.out _ _ (⟨HT3p.out.cell (j := 0) rfl, HT3p.out.cell (j := 1) rfl, HT3p.out.cell (j := 2) rfl, HT4p.out.cell (j := 0) rfl, HT4p.out.cell (j := 2) rfl, HT5p.out.cell (j := 0) rfl⟩) (fun hHeld => ?_)
  clear hK K
  try simp only [Act.put, zq]
  refine wpAnyH_ready (rs := [7]) (by kernel_rfl) (by simp) ?_
  refine AllReadyH.cons rfl (fun K hK => ?_) AllReadyH.nil
  go_simp
  go_at_call 12
  refine (HWB.out _).mono ?_
  rintro e w8 ⟨rfl, hb8⟩
  have HB8 := Lib.hid (HB7.out.trans (hb8.mono HB7.out.size))
  have HT3q := Lib.hid (HT3p.out.after hb8)
  have HT4q := Lib.hid (HT4p.out.after hb8)
  have HT5q := Lib.hid (HT5p.out.after hb8)
  clear hb8
  refine hK.out _ _ (⟨HT3q.out.cell (j := 0) rfl, HT3q.out.cell (j := 1) rfl, HT3q.out.cell (j := 2) rfl, HT4q.out.cell (j := 0) rfl, HT4q.out.cell (j := 2) rfl, HT5q.out.cell (j := 0) rfl⟩) (fun hHeld => ?_)
  clear hK K
  try simp only [Act.put, zq]
  refine hT 8 ?_
  refine hT 9 ?_
  refine hT 10 ?_
  refine hT 11 ?_
  refine hD 12 ?_
  refine hT 13 ?_
  refine hT 14 ?_
  refine hT 15 ?_
  refine hT 16 ?_
  refine hD 17 ?_
  refine hT 18 ?_
  refine hT 19 ?_
  refine hT 20 ?_
  refine hT 21 ?_
  refine hD 22 ?_
  refine hT 23 ?_
  refine hT 24 ?_
  refine hT 25 ?_
  refine hT 26 ?_
  refine hD 27 ?_
  refine hT 28 ?_
  refine hT 29 ?_
  refine hT 30 ?_
  refine wpAnyH_done (by kernel_rfl) ?_ 0
  go_wp2
  go_ret
  exact ⟨rfl, HB8.out⟩
end Go.Proofs.YtlelgbmbmajfmaaGreatDoor

namespace Go.Proofs.YtlelgbmbmajfmaaGreatDoor
open Go.RowKit Go.Shelf Go.Lib
attribute [local go_sem] Oper.semAt_some
theorem eq_done (a : Int) (b : ByteArray) (c : Int) (W : World) : (Op.equalIn 10000 28 (.agg #[.int .i64 a, .string b, .int .u64 c]) (.agg #[.int .i64 a, .string b, .int .u64 c])).run Tryz.prog W = .ok true W := by
  rw [show (10000 : Nat) = 9999 + 1 from rfl]
  go_simp
theorem run_envE {o : Oper} {a : Act} {w : World} {x : Operand} {b q : Nat} {org : ByteArray} {num : Nat} (h : w.rangeAt b q (envC org num)) (ho : o.op = .load 41 x) (hx : a.eval x = .pointer (some ⟨b, q, none⟩)) : (execOp a.eval o).run Tryz.prog w = .ok (.value (.agg #[.string org, .int .u64 num])) w := run_env h ho hx
theorem run_msgZ {o : Oper} {a : Act} {w : World} {x : Operand} {b q : Nat} {m : MsgE} {z : Int} (h : w.rangeAt b q (msgZ m z)) (ho : o.op = .load 43 x) (hx : a.eval x = .pointer (some ⟨b, q, none⟩)) : (execOp a.eval o).run Tryz.prog w = .ok (.value (.agg #[.string m.src, .string m.dst, .string m.who, .int .u64 (limb m.value 0), .int .u64 (limb m.value 1), .int .u64 (limb m.value 2), .int .u64 (limb m.value 3), .string ⟨m.data.toArray⟩, .int .u64 m.gas, .bool m.still, .int .i64 z, .bool m.stays])) w := run_loadR 43 ho hx h Tryz.underlying43 rfl infoMsg
set_option maxRecDepth 100000 in
set_option maxHeartbeats 6400000 in
theorem evmNone_any (org : ByteArray) (num : Nat) (m : MsgE) (z : Int) (w : World) (hK : KecT w) : Calls Tryz.prog 5 #[.agg #[.string org, .int .u64 num], .agg #[.string m.src, .string m.dst, .string m.who, .int .u64 (limb m.value 0), .int .u64 (limb m.value 1), .int .u64 (limb m.value 2), .int .u64 (limb m.value 3), .string ⟨m.data.toArray⟩, .int .u64 m.gas, .bool m.still, .int .i64 z, .bool m.stays]] w fun e w' => e = .returned (.bool true) ∧ Below w.heap.size w w' := by
  have hq := eq_done 2 ⟨#[]⟩ m.gas
  have e : ∀ (W : World) (o : Obj), (W.alloc o).heap.size = W.heap.size + 1 := fun W o => World.size_alloc _ _
  have he1 := (HasCells.new w (envC org num) 41).alloc (.cells (msgZ m z).toArray 43)
  have hm1 := HasCells.new (w.alloc (.cells (envC org num).toArray 41)) (msgZ m z) 43
  rw [e] at hm1
  obtain ⟨w1, hw1⟩ : ∃ W, (w.alloc (.cells #[.string org, .int .u64 num] 41)).alloc (.cells #[.string m.src, .string m.dst, .string m.who, .int .u64 (limb m.value 0), .int .u64 (limb m.value 1), .int .u64 (limb m.value 2), .int .u64 (limb m.value 3), .string ⟨m.data.toArray⟩, .int .u64 m.gas, .bool m.still, .int .i64 z, .bool m.stays] 43) = W := ⟨_, rfl⟩
  rw [show (w.alloc (.cells (envC org num).toArray 41)).alloc (.cells (msgZ m z).toArray 43) = w1 from hw1] at he1 hm1
  have hb1 : Below w.heap.size w w1 := by rw [← hw1]; exact laid2 _ _ _
  have HE1 := Lib.hid he1
  have HM1 := Lib.hid hm1
  have HB1 := Lib.hid hb1
  have HW1 := Lib.hid hw1
  have HK1 := Lib.hid (hK.below hb1)
  clear e he1 hm1 hw1 hb1 hK
  go_enter Tryz.func5, Tryz.ntmps5
  go_wp2_with (rw [HW1.out])
  refine (shown_any _ HK1.out).mono ?_
  rintro e w2 ⟨rfl, hb2⟩
  have HE2 := Lib.hid (HE1.out.after hb2)
  have HM2 := Lib.hid (HM1.out.after hb2)
  have HB2 := Lib.hid (HB1.out.trans (hb2.mono HB1.out.size))
  have HZ2 := Lib.hid (show w.heap.size + 2 ≤ w2.heap.size from HM2.out.lt)
  clear hb2
  go_wp2_with (first | ((with_reducible refine load_gateK 41 ?_); refine wpList_load_midK rfl 41 _ rfl w.heap.size 0 rfl (envC org num) _ HE2.out.range Tryz.underlying41 rfl infoEnv ?_) | ((with_reducible refine load_gateK 43 ?_); refine wpList_load_midK rfl 43 _ rfl (w.heap.size + 1) 0 rfl (msgZ m z) _ HM2.out.range Tryz.underlying43 rfl infoMsg ?_))
  refine (call_nil org num m z _).mono ?_
  rintro e b3 ⟨rfl, hb3⟩
  obtain ⟨w3, hd, ht, hbd⟩ := done3 b3 2 ⟨#[]⟩ m.gas
  have HD3 := Lib.hid hd
  have HT3 := Lib.hid ht
  have HZ3 := Lib.hid (HasCells.new b3 [.int .i64 0, .string ⟨#[]⟩, .int .u64 0] 28)
  have HB3 := Lib.hid (HB2.out.trans ((hb3.trans (hbd.mono hb3.size)).mono HB2.out.size))
  have HE3 := Lib.hid ((HE2.out.after hb3).after hbd)
  have HM3 := Lib.hid ((HM2.out.after hb3).after hbd)
  have HQ3 := Lib.hid (show w.heap.size + 2 ≤ b3.heap.size from Nat.le_trans HZ2.out hb3.size)
  clear hd ht hb3 hbd
  have c10 := HM3.out.cell (j := 10) rfl
  have i10 := HM3.out.frozen 10
  by_cases h1 : 0 ≤ z
  · by_cases h2 : z ≤ 64
    · obtain ⟨w4, hw4⟩ : ∃ W, w3.setCell ⟨w.heap.size + 1, 10, none⟩ (.int .i64 65) = W := ⟨_, rfl⟩
      have HM4 := Lib.hid (show HasCells w4 (w.heap.size + 1) (msgZ m 65) 43 from by rw [← hw4]; exact HM3.out.set 10 _)
      have HE4 := Lib.hid (show HasCells w4 w.heap.size (envC org num) 41 from by rw [← hw4]; exact HE3.out.setOther (by omega) _)
      have HT4 := Lib.hid (show HasCells w4 b3.heap.size [.int .i64 2, .string ⟨#[]⟩, .int .u64 m.gas] 28 from by rw [← hw4]; exact HT3.out.setOther (by have := HQ3.out; omega) _)
      have HB4 := Lib.hid (show Below w.heap.size w w4 from by rw [← hw4]; exact cellSet HB3.out (by omega) 10 _)
      have HW4 := Lib.hid hw4
      clear hw4
      go_wp2_with (first | rw [HW4.out] | ((with_reducible refine store_gateK 28 ?_); refine wpList_store_mid rfl 28 _ _ rfl b3.heap.size 0 #[.int .i64 2, .string ⟨#[]⟩, .int .u64 m.gas] rfl rfl (HZ3.out.there 0 _ (Nat.le_refl _)) infoDone (three_one _ _ _) ?_; rw [show ((#[.int .i64 2, .string ⟨#[]⟩, .int .u64 m.gas] : Array Value)).toList = ([.int .i64 2, .string ⟨#[]⟩, .int .u64 m.gas] : List Value) from rfl, HD3.out]))
      refine wp_region_held_drew (S := (fun W => W.rangeAt w.heap.size 0 (envC org num) ∧ W.rangeAt (w.heap.size + 1) 0 (msgZ m 65))) (by kernel_rfl) (⟨HE4.out.range, HM4.out.range⟩) (fun hHeld => ?_)
      refine hU 1 ?_ (hy := fun w0 hSw => run_envE hSw.1 rfl rfl)
      refine hU 2 ?_ (hy := fun w0 hSw => run_msgZ hSw.2 rfl rfl)
      refine wpAnyH_ready (rs := [0, 4]) (by kernel_rfl) (by simp) ?_
      refine AllReadyH.cons rfl (fun K hK => ?_) (AllReadyH.cons rfl (fun K hK => ?_) AllReadyH.nil)
      · go_simp
        go_at_call 33
        refine (new_any (.slice none 0 0) [] _ (.inl ⟨rfl, rfl⟩) (fun k hk => by cases hk) (by decide)).mono ?_
        rintro e w5 ⟨rfl, -, hb⟩
        have HE5 := Lib.hid (HE4.out.after ((Below.refl _ w4).drew.trans hb))
        have HM5 := Lib.hid (HM4.out.after ((Below.refl _ w4).drew.trans hb))
        have HT5 := Lib.hid (HT4.out.after ((Below.refl _ w4).drew.trans hb))
        have HB5 := Lib.hid (HB4.out.trans (((Below.refl _ w4).drew.trans hb).mono HB4.out.size))
        have HWS5 := Lib.hid (show w4.heap.size ≤ w5.heap.size from (((Below.refl _ w4).drew.trans hb)).size)
        clear hb
        refine hK.out _ _ ⟨HE5.out.range, HM5.out.range⟩ (fun hHeld => ?_)
        clear hK K
        try simp only [Act.put, zq]
        refine wpAnyH_ready (rs := [3, 4]) (by kernel_rfl) (by simp) ?_
        refine AllReadyH.cons rfl (fun K hK => ?_) (AllReadyH.cons rfl (fun K hK => ?_) AllReadyH.nil)
        · go_simp
          go_at_call 32
          refine (call_deep _ org num m 65 (.inr (by decide)) _).mono ?_
          rintro e w6 ⟨rfl, hb⟩
          have HE6 := Lib.hid (HE5.out.after hb)
          have HM6 := Lib.hid (HM5.out.after hb)
          have HT6 := Lib.hid (HT5.out.after hb)
          have HB6 := Lib.hid (HB5.out.trans (hb.mono HB5.out.size))
          have HWS6 := Lib.hid (show w4.heap.size ≤ w6.heap.size from Nat.le_trans HWS5.out (hb).size)
          clear hb
          refine hK.out _ _ ⟨HE6.out.range, HM6.out.range⟩ (fun hHeld => ?_)
          clear hK K
          try simp only [Act.put, zq]
          refine wpAnyH_ready (rs := [4]) (by kernel_rfl) (by simp) ?_
          refine AllReadyH.cons rfl (fun K hK => ?_) AllReadyH.nil
          go_simp
          have hz7 := HasCells.new (w6) [.int .i64 0, .string ⟨#[]⟩, .int .u64 0] 28
          obtain ⟨w7, hy⟩ : ∃ W, (w6).alloc (.cells #[.int .i64 0, .string ⟨#[]⟩, .int .u64 0] 28) = W := ⟨_, rfl⟩
          rw [show (w6).alloc (.cells ([.int .i64 0, .string ⟨#[]⟩, .int .u64 0] : List Value).toArray 28) = w7 from hy] at hz7
          rw [hy]
          have hb : Below (w6).heap.size (w6) w7 := by rw [← hy]; exact (Below.refl _ _).alloc (Nat.le_refl _) _
          have HE7 := Lib.hid (HE6.out.after hb)
          have HM7 := Lib.hid (HM6.out.after hb)
          have HT7 := Lib.hid (HT6.out.after hb)
          have HB7 := Lib.hid (HB6.out.trans (hb.mono HB6.out.size))
          have HWS7 := Lib.hid (show w4.heap.size ≤ w7.heap.size from Nat.le_trans HWS6.out (hb).size)
          have H77 := Lib.hid hz7
          clear hz7 hy hb
          refine hK.out _ _ ⟨HE7.out.range, HM7.out.range⟩ (fun hHeld => ?_)
          clear hK K
          try simp only [Act.put, zq]
          refine wpAnyH_ready (rs := [5]) (by kernel_rfl) (by simp) ?_
          refine AllReadyH.cons rfl (fun K hK => ?_) AllReadyH.nil
          refine step_storeK (by rfl) 28 _ _ rfl (w6.heap.size) 0 #[.int .i64 2, .string ⟨#[]⟩, .int .u64 m.gas] rfl rfl (H77.out.there 0 _ (Nat.le_refl _)) infoDone (three_one _ _ _) ?_
          have ht7 := H77.out.whole (vs := [.int .i64 2, .string ⟨#[]⟩, .int .u64 m.gas]) rfl
          obtain ⟨wz, hy⟩ : ∃ W, w7.setCells (w6.heap.size) 0 [.int .i64 2, .string ⟨#[]⟩, .int .u64 m.gas] = W := ⟨_, rfl⟩
          rw [hy] at ht7
          rw [show ((#[.int .i64 2, .string ⟨#[]⟩, .int .u64 m.gas] : Array Value)).toList = ([.int .i64 2, .string ⟨#[]⟩, .int .u64 m.gas] : List Value) from rfl, hy]
          have hot : ∀ q, q ≠ (w6.heap.size) → wz.heap[q]? = w7.heap[q]? := fun q hq => by rw [← hy]; exact setCells_other hq _ _ _
          have hq7 : w4.heap.size ≤ (w6.heap.size) := by exact HWS6.out
          have hq6 := HT4.out.lt
          have hqm := HM4.out.lt
          have HEz := Lib.hid (HE7.out.kept (hot _ (by omega)))
          have HMz := Lib.hid (HM7.out.kept (hot _ (by omega)))
          have HTz := Lib.hid (HT7.out.kept (hot _ (by omega)))
          have HBz := Lib.hid (show Below w.heap.size w wz from by rw [← hy]; exact below_sets (by have := HB4.out.size; omega) _ _ _ HB7.out)
          have H7z := Lib.hid ht7
          clear ht7 hot hy hq7 hq6 hqm
          refine hK.out _ _ ⟨HEz.out.range, HMz.out.range⟩ (fun hHeld => ?_)
          clear hK K
          try simp only [Act.put, zq]
          refine wpAnyH_done (by kernel_rfl) ?_ 0
          have c5 := HMz.out.cell (j := 8) rfl
          obtain ⟨w8, hd8, ht8, hb8⟩ := done3 wz 2 ⟨#[]⟩ m.gas
          have HD8 := Lib.hid hd8
          have HT8 := Lib.hid ht8
          have HN8 := Lib.hid (HasCells.new wz [.int .i64 0, .string ⟨#[]⟩, .int .u64 0] 28)
          have HT68 := Lib.hid (HTz.out.after hb8)
          have H78 := Lib.hid (H7z.out.after hb8)
          have HB8 := Lib.hid (HBz.out.trans (hb8.mono HBz.out.size))
          clear hd8 ht8 hb8
          go_wp2_with (first | ((with_reducible refine store_gateK 28 ?_); refine wpList_store_mid rfl 28 _ _ rfl wz.heap.size 0 #[.int .i64 2, .string ⟨#[]⟩, .int .u64 m.gas] rfl rfl (HN8.out.there 0 _ (Nat.le_refl _)) infoDone (three_one _ _ _) ?_; rw [show ((#[.int .i64 2, .string ⟨#[]⟩, .int .u64 m.gas] : Array Value)).toList = ([.int .i64 2, .string ⟨#[]⟩, .int .u64 m.gas] : List Value) from rfl, HD8.out]) | ((with_reducible refine load_gateK 28 ?_); first | refine wpList_load_midK rfl 28 _ rfl wz.heap.size 0 rfl [.int .i64 2, .string ⟨#[]⟩, .int .u64 m.gas] _ HT8.out.range Tryz.underlying28 rfl infoDone ?_ | refine wpList_load_midK rfl 28 _ rfl (w6.heap.size) 0 rfl [.int .i64 2, .string ⟨#[]⟩, .int .u64 m.gas] _ H78.out.range Tryz.underlying28 rfl infoDone ?_ | refine wpList_load_midK rfl 28 _ rfl b3.heap.size 0 rfl [.int .i64 2, .string ⟨#[]⟩, .int .u64 m.gas] _ HT68.out.range Tryz.underlying28 rfl infoDone ?_))
          go_ret
          exact ⟨rfl, HB8.out⟩
        · go_simp
          have hz7 := HasCells.new (w5) [.int .i64 0, .string ⟨#[]⟩, .int .u64 0] 28
          obtain ⟨w6, hy⟩ : ∃ W, (w5).alloc (.cells #[.int .i64 0, .string ⟨#[]⟩, .int .u64 0] 28) = W := ⟨_, rfl⟩
          rw [show (w5).alloc (.cells ([.int .i64 0, .string ⟨#[]⟩, .int .u64 0] : List Value).toArray 28) = w6 from hy] at hz7
          rw [hy]
          have hb : Below (w5).heap.size (w5) w6 := by rw [← hy]; exact (Below.refl _ _).alloc (Nat.le_refl _) _
          have HE6 := Lib.hid (HE5.out.after hb)
          have HM6 := Lib.hid (HM5.out.after hb)
          have HT6 := Lib.hid (HT5.out.after hb)
          have HB6 := Lib.hid (HB5.out.trans (hb.mono HB5.out.size))
          have HWS6 := Lib.hid (show w4.heap.size ≤ w6.heap.size from Nat.le_trans HWS5.out (hb).size)
          have H76 := Lib.hid hz7
          clear hz7 hy hb
          refine hK.out _ _ ⟨HE6.out.range, HM6.out.range⟩ (fun hHeld => ?_)
          clear hK K
          try simp only [Act.put, zq]
          refine wpAnyH_ready (rs := [3]) (by kernel_rfl) (by simp) ?_
          refine AllReadyH.cons rfl (fun K hK => ?_) AllReadyH.nil
          go_simp
          go_at_call 32
          refine (call_deep _ org num m 65 (.inr (by decide)) _).mono ?_
          rintro e w7 ⟨rfl, hb⟩
          have HE7 := Lib.hid (HE6.out.after hb)
          have HM7 := Lib.hid (HM6.out.after hb)
          have HT7 := Lib.hid (HT6.out.after hb)
          have HB7 := Lib.hid (HB6.out.trans (hb.mono HB6.out.size))
          have HWS7 := Lib.hid (show w4.heap.size ≤ w7.heap.size from Nat.le_trans HWS6.out (hb).size)
          have H77 := Lib.hid (H76.out.after hb)
          clear hb
          refine hK.out _ _ ⟨HE7.out.range, HM7.out.range⟩ (fun hHeld => ?_)
          clear hK K
          try simp only [Act.put, zq]
          refine wpAnyH_ready (rs := [5]) (by kernel_rfl) (by simp) ?_
          refine AllReadyH.cons rfl (fun K hK => ?_) AllReadyH.nil
          refine step_storeK (by rfl) 28 _ _ rfl (w5.heap.size) 0 #[.int .i64 2, .string ⟨#[]⟩, .int .u64 m.gas] rfl rfl (H77.out.there 0 _ (Nat.le_refl _)) infoDone (three_one _ _ _) ?_
          have ht7 := H77.out.whole (vs := [.int .i64 2, .string ⟨#[]⟩, .int .u64 m.gas]) rfl
          obtain ⟨wz, hy⟩ : ∃ W, w7.setCells (w5.heap.size) 0 [.int .i64 2, .string ⟨#[]⟩, .int .u64 m.gas] = W := ⟨_, rfl⟩
          rw [hy] at ht7
          rw [show ((#[.int .i64 2, .string ⟨#[]⟩, .int .u64 m.gas] : Array Value)).toList = ([.int .i64 2, .string ⟨#[]⟩, .int .u64 m.gas] : List Value) from rfl, hy]
          have hot : ∀ q, q ≠ (w5.heap.size) → wz.heap[q]? = w7.heap[q]? := fun q hq => by rw [← hy]; exact setCells_other hq _ _ _
          have hq7 : w4.heap.size ≤ (w5.heap.size) := by exact HWS5.out
          have hq6 := HT4.out.lt
          have hqm := HM4.out.lt
          have HEz := Lib.hid (HE7.out.kept (hot _ (by omega)))
          have HMz := Lib.hid (HM7.out.kept (hot _ (by omega)))
          have HTz := Lib.hid (HT7.out.kept (hot _ (by omega)))
          have HBz := Lib.hid (show Below w.heap.size w wz from by rw [← hy]; exact below_sets (by have := HB4.out.size; omega) _ _ _ HB7.out)
          have H7z := Lib.hid ht7
          clear ht7 hot hy hq7 hq6 hqm
          refine hK.out _ _ ⟨HEz.out.range, HMz.out.range⟩ (fun hHeld => ?_)
          clear hK K
          try simp only [Act.put, zq]
          refine wpAnyH_done (by kernel_rfl) ?_ 0
          have c5 := HMz.out.cell (j := 8) rfl
          obtain ⟨w8, hd8, ht8, hb8⟩ := done3 wz 2 ⟨#[]⟩ m.gas
          have HD8 := Lib.hid hd8
          have HT8 := Lib.hid ht8
          have HN8 := Lib.hid (HasCells.new wz [.int .i64 0, .string ⟨#[]⟩, .int .u64 0] 28)
          have HT68 := Lib.hid (HTz.out.after hb8)
          have H78 := Lib.hid (H7z.out.after hb8)
          have HB8 := Lib.hid (HBz.out.trans (hb8.mono HBz.out.size))
          clear hd8 ht8 hb8
          go_wp2_with (first | ((with_reducible refine store_gateK 28 ?_); refine wpList_store_mid rfl 28 _ _ rfl wz.heap.size 0 #[.int .i64 2, .string ⟨#[]⟩, .int .u64 m.gas] rfl rfl (HN8.out.there 0 _ (Nat.le_refl _)) infoDone (three_one _ _ _) ?_; rw [show ((#[.int .i64 2, .string ⟨#[]⟩, .int .u64 m.gas] : Array Value)).toList = ([.int .i64 2, .string ⟨#[]⟩, .int .u64 m.gas] : List Value) from rfl, HD8.out]) | ((with_reducible refine load_gateK 28 ?_); first | refine wpList_load_midK rfl 28 _ rfl wz.heap.size 0 rfl [.int .i64 2, .string ⟨#[]⟩, .int .u64 m.gas] _ HT8.out.range Tryz.underlying28 rfl infoDone ?_ | refine wpList_load_midK rfl 28 _ rfl (w5.heap.size) 0 rfl [.int .i64 2, .string ⟨#[]⟩, .int .u64 m.gas] _ H78.out.range Tryz.underlying28 rfl infoDone ?_ | refine wpList_load_midK rfl 28 _ rfl b3.heap.size 0 rfl [.int .i64 2, .string ⟨#[]⟩, .int .u64 m.gas] _ HT68.out.range Tryz.underlying28 rfl infoDone ?_))
          go_ret
          exact ⟨rfl, HB8.out⟩
      · go_simp
        have hz7 := HasCells.new w4 [.int .i64 0, .string ⟨#[]⟩, .int .u64 0] 28
        obtain ⟨w5, hy⟩ : ∃ W, (w4.alloc (.cells #[.int .i64 0, .string ⟨#[]⟩, .int .u64 0] 28)).drew = W := ⟨_, rfl⟩
        have hz7 : HasCells w5 w4.heap.size [.int .i64 0, .string ⟨#[]⟩, .int .u64 0] 28 := by rw [← hy]; exact hz7
        rw [hy]
        have hb : Below w4.heap.size w4 w5 := by rw [← hy]; exact ((Below.refl _ _).alloc (Nat.le_refl _) _).drew
        have HE5 := Lib.hid (HE4.out.after hb)
        have HM5 := Lib.hid (HM4.out.after hb)
        have HT5 := Lib.hid (HT4.out.after hb)
        have HB5 := Lib.hid (HB4.out.trans (hb.mono HB4.out.size))
        have HWS5 := Lib.hid (show w4.heap.size ≤ w5.heap.size from (hb).size)
        have H75 := Lib.hid hz7
        clear hz7 hy hb
        refine hK.out _ _ ⟨HE5.out.range, HM5.out.range⟩ (fun hHeld => ?_)
        clear hK K
        try simp only [Act.put, zq]
        refine wpAnyH_ready (rs := [0]) (by kernel_rfl) (by simp) ?_
        refine AllReadyH.cons rfl (fun K hK => ?_) AllReadyH.nil
        go_simp
        go_at_call 33
        refine (new_any (.slice none 0 0) [] _ (.inl ⟨rfl, rfl⟩) (fun k hk => by cases hk) (by decide)).mono ?_
        rintro e w6 ⟨rfl, -, hb⟩
        have HE6 := Lib.hid (HE5.out.after hb)
        have HM6 := Lib.hid (HM5.out.after hb)
        have HT6 := Lib.hid (HT5.out.after hb)
        have HB6 := Lib.hid (HB5.out.trans (hb.mono HB5.out.size))
        have HWS6 := Lib.hid (show w4.heap.size ≤ w6.heap.size from Nat.le_trans HWS5.out (hb).size)
        have H76 := Lib.hid (H75.out.after hb)
        clear hb
        refine hK.out _ _ ⟨HE6.out.range, HM6.out.range⟩ (fun hHeld => ?_)
        clear hK K
        try simp only [Act.put, zq]
        refine wpAnyH_ready (rs := [3]) (by kernel_rfl) (by simp) ?_
        refine AllReadyH.cons rfl (fun K hK => ?_) AllReadyH.nil
        go_simp
        go_at_call 32
        refine (call_deep _ org num m 65 (.inr (by decide)) _).mono ?_
        rintro e w7 ⟨rfl, hb⟩
        have HE7 := Lib.hid (HE6.out.after hb)
        have HM7 := Lib.hid (HM6.out.after hb)
        have HT7 := Lib.hid (HT6.out.after hb)
        have HB7 := Lib.hid (HB6.out.trans (hb.mono HB6.out.size))
        have HWS7 := Lib.hid (show w4.heap.size ≤ w7.heap.size from Nat.le_trans HWS6.out (hb).size)
        have H77 := Lib.hid (H76.out.after hb)
        clear hb
        refine hK.out _ _ ⟨HE7.out.range, HM7.out.range⟩ (fun hHeld => ?_)
        clear hK K
        try simp only [Act.put, zq]
        refine wpAnyH_ready (rs := [5]) (by kernel_rfl) (by simp) ?_
        refine AllReadyH.cons rfl (fun K hK => ?_) AllReadyH.nil
        refine step_storeK (by rfl) 28 _ _ rfl (w4.heap.size) 0 #[.int .i64 2, .string ⟨#[]⟩, .int .u64 m.gas] rfl rfl (H77.out.there 0 _ (Nat.le_refl _)) infoDone (three_one _ _ _) ?_
        have ht7 := H77.out.whole (vs := [.int .i64 2, .string ⟨#[]⟩, .int .u64 m.gas]) rfl
        obtain ⟨wz, hy⟩ : ∃ W, w7.setCells (w4.heap.size) 0 [.int .i64 2, .string ⟨#[]⟩, .int .u64 m.gas] = W := ⟨_, rfl⟩
        rw [hy] at ht7
        rw [show ((#[.int .i64 2, .string ⟨#[]⟩, .int .u64 m.gas] : Array Value)).toList = ([.int .i64 2, .string ⟨#[]⟩, .int .u64 m.gas] : List Value) from rfl, hy]
        have hot : ∀ q, q ≠ (w4.heap.size) → wz.heap[q]? = w7.heap[q]? := fun q hq => by rw [← hy]; exact setCells_other hq _ _ _
        have hq7 : w4.heap.size ≤ (w4.heap.size) := by exact Nat.le_refl _
        have hq6 := HT4.out.lt
        have hqm := HM4.out.lt
        have HEz := Lib.hid (HE7.out.kept (hot _ (by omega)))
        have HMz := Lib.hid (HM7.out.kept (hot _ (by omega)))
        have HTz := Lib.hid (HT7.out.kept (hot _ (by omega)))
        have HBz := Lib.hid (show Below w.heap.size w wz from by rw [← hy]; exact below_sets (by have := HB4.out.size; omega) _ _ _ HB7.out)
        have H7z := Lib.hid ht7
        clear ht7 hot hy hq7 hq6 hqm
        refine hK.out _ _ ⟨HEz.out.range, HMz.out.range⟩ (fun hHeld => ?_)
        clear hK K
        try simp only [Act.put, zq]
        refine wpAnyH_done (by kernel_rfl) ?_ 0
        have c5 := HMz.out.cell (j := 8) rfl
        obtain ⟨w8, hd8, ht8, hb8⟩ := done3 wz 2 ⟨#[]⟩ m.gas
        have HD8 := Lib.hid hd8
        have HT8 := Lib.hid ht8
        have HN8 := Lib.hid (HasCells.new wz [.int .i64 0, .string ⟨#[]⟩, .int .u64 0] 28)
        have HT68 := Lib.hid (HTz.out.after hb8)
        have H78 := Lib.hid (H7z.out.after hb8)
        have HB8 := Lib.hid (HBz.out.trans (hb8.mono HBz.out.size))
        clear hd8 ht8 hb8
        go_wp2_with (first | ((with_reducible refine store_gateK 28 ?_); refine wpList_store_mid rfl 28 _ _ rfl wz.heap.size 0 #[.int .i64 2, .string ⟨#[]⟩, .int .u64 m.gas] rfl rfl (HN8.out.there 0 _ (Nat.le_refl _)) infoDone (three_one _ _ _) ?_; rw [show ((#[.int .i64 2, .string ⟨#[]⟩, .int .u64 m.gas] : Array Value)).toList = ([.int .i64 2, .string ⟨#[]⟩, .int .u64 m.gas] : List Value) from rfl, HD8.out]) | ((with_reducible refine load_gateK 28 ?_); first | refine wpList_load_midK rfl 28 _ rfl wz.heap.size 0 rfl [.int .i64 2, .string ⟨#[]⟩, .int .u64 m.gas] _ HT8.out.range Tryz.underlying28 rfl infoDone ?_ | refine wpList_load_midK rfl 28 _ rfl (w4.heap.size) 0 rfl [.int .i64 2, .string ⟨#[]⟩, .int .u64 m.gas] _ H78.out.range Tryz.underlying28 rfl infoDone ?_ | refine wpList_load_midK rfl 28 _ rfl b3.heap.size 0 rfl [.int .i64 2, .string ⟨#[]⟩, .int .u64 m.gas] _ HT68.out.range Tryz.underlying28 rfl infoDone ?_))
        go_ret
        exact ⟨rfl, HB8.out⟩
    · clear c10 i10
      have c10 := HM3.out.cell (j := 10) rfl
      have HE4 := HE3
      have HM4 := HM3
      have HT4 := HT3
      have HB4 := HB3
      go_wp2_with ((with_reducible refine store_gateK 28 ?_); refine wpList_store_mid rfl 28 _ _ rfl b3.heap.size 0 #[.int .i64 2, .string ⟨#[]⟩, .int .u64 m.gas] rfl rfl (HZ3.out.there 0 _ (Nat.le_refl _)) infoDone (three_one _ _ _) ?_; rw [show ((#[.int .i64 2, .string ⟨#[]⟩, .int .u64 m.gas] : Array Value)).toList = ([.int .i64 2, .string ⟨#[]⟩, .int .u64 m.gas] : List Value) from rfl, HD3.out])
      refine wp_region_held_drew (S := (fun W => W.rangeAt w.heap.size 0 (envC org num) ∧ W.rangeAt (w.heap.size + 1) 0 (msgZ m z))) (by kernel_rfl) (⟨HE4.out.range, HM4.out.range⟩) (fun hHeld => ?_)
      refine hU 1 ?_ (hy := fun w0 hSw => run_envE hSw.1 rfl rfl)
      refine hU 2 ?_ (hy := fun w0 hSw => run_msgZ hSw.2 rfl rfl)
      refine wpAnyH_ready (rs := [0, 4]) (by kernel_rfl) (by simp) ?_
      refine AllReadyH.cons rfl (fun K hK => ?_) (AllReadyH.cons rfl (fun K hK => ?_) AllReadyH.nil)
      · go_simp
        go_at_call 33
        refine (new_any (.slice none 0 0) [] _ (.inl ⟨rfl, rfl⟩) (fun k hk => by cases hk) (by decide)).mono ?_
        rintro e w5 ⟨rfl, -, hb⟩
        have HE5 := Lib.hid (HE4.out.after ((Below.refl _ w3).drew.trans hb))
        have HM5 := Lib.hid (HM4.out.after ((Below.refl _ w3).drew.trans hb))
        have HT5 := Lib.hid (HT4.out.after ((Below.refl _ w3).drew.trans hb))
        have HB5 := Lib.hid (HB4.out.trans (((Below.refl _ w3).drew.trans hb).mono HB4.out.size))
        have HWS5 := Lib.hid (show w3.heap.size ≤ w5.heap.size from (((Below.refl _ w3).drew.trans hb)).size)
        clear hb
        refine hK.out _ _ ⟨HE5.out.range, HM5.out.range⟩ (fun hHeld => ?_)
        clear hK K
        try simp only [Act.put, zq]
        refine wpAnyH_ready (rs := [3, 4]) (by kernel_rfl) (by simp) ?_
        refine AllReadyH.cons rfl (fun K hK => ?_) (AllReadyH.cons rfl (fun K hK => ?_) AllReadyH.nil)
        · go_simp
          go_at_call 32
          refine (call_deep _ org num m z (.inr (by omega)) _).mono ?_
          rintro e w6 ⟨rfl, hb⟩
          have HE6 := Lib.hid (HE5.out.after hb)
          have HM6 := Lib.hid (HM5.out.after hb)
          have HT6 := Lib.hid (HT5.out.after hb)
          have HB6 := Lib.hid (HB5.out.trans (hb.mono HB5.out.size))
          have HWS6 := Lib.hid (show w3.heap.size ≤ w6.heap.size from Nat.le_trans HWS5.out (hb).size)
          clear hb
          refine hK.out _ _ ⟨HE6.out.range, HM6.out.range⟩ (fun hHeld => ?_)
          clear hK K
          try simp only [Act.put, zq]
          refine wpAnyH_ready (rs := [4]) (by kernel_rfl) (by simp) ?_
          refine AllReadyH.cons rfl (fun K hK => ?_) AllReadyH.nil
          go_simp
          have hz7 := HasCells.new (w6) [.int .i64 0, .string ⟨#[]⟩, .int .u64 0] 28
          obtain ⟨w7, hy⟩ : ∃ W, (w6).alloc (.cells #[.int .i64 0, .string ⟨#[]⟩, .int .u64 0] 28) = W := ⟨_, rfl⟩
          rw [show (w6).alloc (.cells ([.int .i64 0, .string ⟨#[]⟩, .int .u64 0] : List Value).toArray 28) = w7 from hy] at hz7
          rw [hy]
          have hb : Below (w6).heap.size (w6) w7 := by rw [← hy]; exact (Below.refl _ _).alloc (Nat.le_refl _) _
          have HE7 := Lib.hid (HE6.out.after hb)
          have HM7 := Lib.hid (HM6.out.after hb)
          have HT7 := Lib.hid (HT6.out.after hb)
          have HB7 := Lib.hid (HB6.out.trans (hb.mono HB6.out.size))
          have HWS7 := Lib.hid (show w3.heap.size ≤ w7.heap.size from Nat.le_trans HWS6.out (hb).size)
          have H77 := Lib.hid hz7
          clear hz7 hy hb
          refine hK.out _ _ ⟨HE7.out.range, HM7.out.range⟩ (fun hHeld => ?_)
          clear hK K
          try simp only [Act.put, zq]
          refine wpAnyH_ready (rs := [5]) (by kernel_rfl) (by simp) ?_
          refine AllReadyH.cons rfl (fun K hK => ?_) AllReadyH.nil
          refine step_storeK (by rfl) 28 _ _ rfl (w6.heap.size) 0 #[.int .i64 2, .string ⟨#[]⟩, .int .u64 m.gas] rfl rfl (H77.out.there 0 _ (Nat.le_refl _)) infoDone (three_one _ _ _) ?_
          have ht7 := H77.out.whole (vs := [.int .i64 2, .string ⟨#[]⟩, .int .u64 m.gas]) rfl
          obtain ⟨wz, hy⟩ : ∃ W, w7.setCells (w6.heap.size) 0 [.int .i64 2, .string ⟨#[]⟩, .int .u64 m.gas] = W := ⟨_, rfl⟩
          rw [hy] at ht7
          rw [show ((#[.int .i64 2, .string ⟨#[]⟩, .int .u64 m.gas] : Array Value)).toList = ([.int .i64 2, .string ⟨#[]⟩, .int .u64 m.gas] : List Value) from rfl, hy]
          have hot : ∀ q, q ≠ (w6.heap.size) → wz.heap[q]? = w7.heap[q]? := fun q hq => by rw [← hy]; exact setCells_other hq _ _ _
          have hq7 : w3.heap.size ≤ (w6.heap.size) := by exact HWS6.out
          have hq6 := HT4.out.lt
          have hqm := HM4.out.lt
          have HEz := Lib.hid (HE7.out.kept (hot _ (by omega)))
          have HMz := Lib.hid (HM7.out.kept (hot _ (by omega)))
          have HTz := Lib.hid (HT7.out.kept (hot _ (by omega)))
          have HBz := Lib.hid (show Below w.heap.size w wz from by rw [← hy]; exact below_sets (by have := HB4.out.size; omega) _ _ _ HB7.out)
          have H7z := Lib.hid ht7
          clear ht7 hot hy hq7 hq6 hqm
          refine hK.out _ _ ⟨HEz.out.range, HMz.out.range⟩ (fun hHeld => ?_)
          clear hK K
          try simp only [Act.put, zq]
          refine wpAnyH_done (by kernel_rfl) ?_ 0
          have c5 := HMz.out.cell (j := 8) rfl
          obtain ⟨w8, hd8, ht8, hb8⟩ := done3 wz 2 ⟨#[]⟩ m.gas
          have HD8 := Lib.hid hd8
          have HT8 := Lib.hid ht8
          have HN8 := Lib.hid (HasCells.new wz [.int .i64 0, .string ⟨#[]⟩, .int .u64 0] 28)
          have HT68 := Lib.hid (HTz.out.after hb8)
          have H78 := Lib.hid (H7z.out.after hb8)
          have HB8 := Lib.hid (HBz.out.trans (hb8.mono HBz.out.size))
          clear hd8 ht8 hb8
          go_wp2_with (first | ((with_reducible refine store_gateK 28 ?_); refine wpList_store_mid rfl 28 _ _ rfl wz.heap.size 0 #[.int .i64 2, .string ⟨#[]⟩, .int .u64 m.gas] rfl rfl (HN8.out.there 0 _ (Nat.le_refl _)) infoDone (three_one _ _ _) ?_; rw [show ((#[.int .i64 2, .string ⟨#[]⟩, .int .u64 m.gas] : Array Value)).toList = ([.int .i64 2, .string ⟨#[]⟩, .int .u64 m.gas] : List Value) from rfl, HD8.out]) | ((with_reducible refine load_gateK 28 ?_); first | refine wpList_load_midK rfl 28 _ rfl wz.heap.size 0 rfl [.int .i64 2, .string ⟨#[]⟩, .int .u64 m.gas] _ HT8.out.range Tryz.underlying28 rfl infoDone ?_ | refine wpList_load_midK rfl 28 _ rfl (w6.heap.size) 0 rfl [.int .i64 2, .string ⟨#[]⟩, .int .u64 m.gas] _ H78.out.range Tryz.underlying28 rfl infoDone ?_ | refine wpList_load_midK rfl 28 _ rfl b3.heap.size 0 rfl [.int .i64 2, .string ⟨#[]⟩, .int .u64 m.gas] _ HT68.out.range Tryz.underlying28 rfl infoDone ?_))
          go_ret
          exact ⟨rfl, HB8.out⟩
        · go_simp
          have hz7 := HasCells.new (w5) [.int .i64 0, .string ⟨#[]⟩, .int .u64 0] 28
          obtain ⟨w6, hy⟩ : ∃ W, (w5).alloc (.cells #[.int .i64 0, .string ⟨#[]⟩, .int .u64 0] 28) = W := ⟨_, rfl⟩
          rw [show (w5).alloc (.cells ([.int .i64 0, .string ⟨#[]⟩, .int .u64 0] : List Value).toArray 28) = w6 from hy] at hz7
          rw [hy]
          have hb : Below (w5).heap.size (w5) w6 := by rw [← hy]; exact (Below.refl _ _).alloc (Nat.le_refl _) _
          have HE6 := Lib.hid (HE5.out.after hb)
          have HM6 := Lib.hid (HM5.out.after hb)
          have HT6 := Lib.hid (HT5.out.after hb)
          have HB6 := Lib.hid (HB5.out.trans (hb.mono HB5.out.size))
          have HWS6 := Lib.hid (show w3.heap.size ≤ w6.heap.size from Nat.le_trans HWS5.out (hb).size)
          have H76 := Lib.hid hz7
          clear hz7 hy hb
          refine hK.out _ _ ⟨HE6.out.range, HM6.out.range⟩ (fun hHeld => ?_)
          clear hK K
          try simp only [Act.put, zq]
          refine wpAnyH_ready (rs := [3]) (by kernel_rfl) (by simp) ?_
          refine AllReadyH.cons rfl (fun K hK => ?_) AllReadyH.nil
          go_simp
          go_at_call 32
          refine (call_deep _ org num m z (.inr (by omega)) _).mono ?_
          rintro e w7 ⟨rfl, hb⟩
          have HE7 := Lib.hid (HE6.out.after hb)
          have HM7 := Lib.hid (HM6.out.after hb)
          have HT7 := Lib.hid (HT6.out.after hb)
          have HB7 := Lib.hid (HB6.out.trans (hb.mono HB6.out.size))
          have HWS7 := Lib.hid (show w3.heap.size ≤ w7.heap.size from Nat.le_trans HWS6.out (hb).size)
          have H77 := Lib.hid (H76.out.after hb)
          clear hb
          refine hK.out _ _ ⟨HE7.out.range, HM7.out.range⟩ (fun hHeld => ?_)
          clear hK K
          try simp only [Act.put, zq]
          refine wpAnyH_ready (rs := [5]) (by kernel_rfl) (by simp) ?_
          refine AllReadyH.cons rfl (fun K hK => ?_) AllReadyH.nil
          refine step_storeK (by rfl) 28 _ _ rfl (w5.heap.size) 0 #[.int .i64 2, .string ⟨#[]⟩, .int .u64 m.gas] rfl rfl (H77.out.there 0 _ (Nat.le_refl _)) infoDone (three_one _ _ _) ?_
          have ht7 := H77.out.whole (vs := [.int .i64 2, .string ⟨#[]⟩, .int .u64 m.gas]) rfl
          obtain ⟨wz, hy⟩ : ∃ W, w7.setCells (w5.heap.size) 0 [.int .i64 2, .string ⟨#[]⟩, .int .u64 m.gas] = W := ⟨_, rfl⟩
          rw [hy] at ht7
          rw [show ((#[.int .i64 2, .string ⟨#[]⟩, .int .u64 m.gas] : Array Value)).toList = ([.int .i64 2, .string ⟨#[]⟩, .int .u64 m.gas] : List Value) from rfl, hy]
          have hot : ∀ q, q ≠ (w5.heap.size) → wz.heap[q]? = w7.heap[q]? := fun q hq => by rw [← hy]; exact setCells_other hq _ _ _
          have hq7 : w3.heap.size ≤ (w5.heap.size) := by exact HWS5.out
          have hq6 := HT4.out.lt
          have hqm := HM4.out.lt
          have HEz := Lib.hid (HE7.out.kept (hot _ (by omega)))
          have HMz := Lib.hid (HM7.out.kept (hot _ (by omega)))
          have HTz := Lib.hid (HT7.out.kept (hot _ (by omega)))
          have HBz := Lib.hid (show Below w.heap.size w wz from by rw [← hy]; exact below_sets (by have := HB4.out.size; omega) _ _ _ HB7.out)
          have H7z := Lib.hid ht7
          clear ht7 hot hy hq7 hq6 hqm
          refine hK.out _ _ ⟨HEz.out.range, HMz.out.range⟩ (fun hHeld => ?_)
          clear hK K
          try simp only [Act.put, zq]
          refine wpAnyH_done (by kernel_rfl) ?_ 0
          have c5 := HMz.out.cell (j := 8) rfl
          obtain ⟨w8, hd8, ht8, hb8⟩ := done3 wz 2 ⟨#[]⟩ m.gas
          have HD8 := Lib.hid hd8
          have HT8 := Lib.hid ht8
          have HN8 := Lib.hid (HasCells.new wz [.int .i64 0, .string ⟨#[]⟩, .int .u64 0] 28)
          have HT68 := Lib.hid (HTz.out.after hb8)
          have H78 := Lib.hid (H7z.out.after hb8)
          have HB8 := Lib.hid (HBz.out.trans (hb8.mono HBz.out.size))
          clear hd8 ht8 hb8
          go_wp2_with (first | ((with_reducible refine store_gateK 28 ?_); refine wpList_store_mid rfl 28 _ _ rfl wz.heap.size 0 #[.int .i64 2, .string ⟨#[]⟩, .int .u64 m.gas] rfl rfl (HN8.out.there 0 _ (Nat.le_refl _)) infoDone (three_one _ _ _) ?_; rw [show ((#[.int .i64 2, .string ⟨#[]⟩, .int .u64 m.gas] : Array Value)).toList = ([.int .i64 2, .string ⟨#[]⟩, .int .u64 m.gas] : List Value) from rfl, HD8.out]) | ((with_reducible refine load_gateK 28 ?_); first | refine wpList_load_midK rfl 28 _ rfl wz.heap.size 0 rfl [.int .i64 2, .string ⟨#[]⟩, .int .u64 m.gas] _ HT8.out.range Tryz.underlying28 rfl infoDone ?_ | refine wpList_load_midK rfl 28 _ rfl (w5.heap.size) 0 rfl [.int .i64 2, .string ⟨#[]⟩, .int .u64 m.gas] _ H78.out.range Tryz.underlying28 rfl infoDone ?_ | refine wpList_load_midK rfl 28 _ rfl b3.heap.size 0 rfl [.int .i64 2, .string ⟨#[]⟩, .int .u64 m.gas] _ HT68.out.range Tryz.underlying28 rfl infoDone ?_))
          go_ret
          exact ⟨rfl, HB8.out⟩
      · go_simp
        have hz7 := HasCells.new w3 [.int .i64 0, .string ⟨#[]⟩, .int .u64 0] 28
        obtain ⟨w5, hy⟩ : ∃ W, (w3.alloc (.cells #[.int .i64 0, .string ⟨#[]⟩, .int .u64 0] 28)).drew = W := ⟨_, rfl⟩
        have hz7 : HasCells w5 w3.heap.size [.int .i64 0, .string ⟨#[]⟩, .int .u64 0] 28 := by rw [← hy]; exact hz7
        rw [hy]
        have hb : Below w3.heap.size w3 w5 := by rw [← hy]; exact ((Below.refl _ _).alloc (Nat.le_refl _) _).drew
        have HE5 := Lib.hid (HE4.out.after hb)
        have HM5 := Lib.hid (HM4.out.after hb)
        have HT5 := Lib.hid (HT4.out.after hb)
        have HB5 := Lib.hid (HB4.out.trans (hb.mono HB4.out.size))
        have HWS5 := Lib.hid (show w3.heap.size ≤ w5.heap.size from (hb).size)
        have H75 := Lib.hid hz7
        clear hz7 hy hb
        refine hK.out _ _ ⟨HE5.out.range, HM5.out.range⟩ (fun hHeld => ?_)
        clear hK K
        try simp only [Act.put, zq]
        refine wpAnyH_ready (rs := [0]) (by kernel_rfl) (by simp) ?_
        refine AllReadyH.cons rfl (fun K hK => ?_) AllReadyH.nil
        go_simp
        go_at_call 33
        refine (new_any (.slice none 0 0) [] _ (.inl ⟨rfl, rfl⟩) (fun k hk => by cases hk) (by decide)).mono ?_
        rintro e w6 ⟨rfl, -, hb⟩
        have HE6 := Lib.hid (HE5.out.after hb)
        have HM6 := Lib.hid (HM5.out.after hb)
        have HT6 := Lib.hid (HT5.out.after hb)
        have HB6 := Lib.hid (HB5.out.trans (hb.mono HB5.out.size))
        have HWS6 := Lib.hid (show w3.heap.size ≤ w6.heap.size from Nat.le_trans HWS5.out (hb).size)
        have H76 := Lib.hid (H75.out.after hb)
        clear hb
        refine hK.out _ _ ⟨HE6.out.range, HM6.out.range⟩ (fun hHeld => ?_)
        clear hK K
        try simp only [Act.put, zq]
        refine wpAnyH_ready (rs := [3]) (by kernel_rfl) (by simp) ?_
        refine AllReadyH.cons rfl (fun K hK => ?_) AllReadyH.nil
        go_simp
        go_at_call 32
        refine (call_deep _ org num m z (.inr (by omega)) _).mono ?_
        rintro e w7 ⟨rfl, hb⟩
        have HE7 := Lib.hid (HE6.out.after hb)
        have HM7 := Lib.hid (HM6.out.after hb)
        have HT7 := Lib.hid (HT6.out.after hb)
        have HB7 := Lib.hid (HB6.out.trans (hb.mono HB6.out.size))
        have HWS7 := Lib.hid (show w3.heap.size ≤ w7.heap.size from Nat.le_trans HWS6.out (hb).size)
        have H77 := Lib.hid (H76.out.after hb)
        clear hb
        refine hK.out _ _ ⟨HE7.out.range, HM7.out.range⟩ (fun hHeld => ?_)
        clear hK K
        try simp only [Act.put, zq]
        refine wpAnyH_ready (rs := [5]) (by kernel_rfl) (by simp) ?_
        refine AllReadyH.cons rfl (fun K hK => ?_) AllReadyH.nil
        refine step_storeK (by rfl) 28 _ _ rfl (w3.heap.size) 0 #[.int .i64 2, .string ⟨#[]⟩, .int .u64 m.gas] rfl rfl (H77.out.there 0 _ (Nat.le_refl _)) infoDone (three_one _ _ _) ?_
        have ht7 := H77.out.whole (vs := [.int .i64 2, .string ⟨#[]⟩, .int .u64 m.gas]) rfl
        obtain ⟨wz, hy⟩ : ∃ W, w7.setCells (w3.heap.size) 0 [.int .i64 2, .string ⟨#[]⟩, .int .u64 m.gas] = W := ⟨_, rfl⟩
        rw [hy] at ht7
        rw [show ((#[.int .i64 2, .string ⟨#[]⟩, .int .u64 m.gas] : Array Value)).toList = ([.int .i64 2, .string ⟨#[]⟩, .int .u64 m.gas] : List Value) from rfl, hy]
        have hot : ∀ q, q ≠ (w3.heap.size) → wz.heap[q]? = w7.heap[q]? := fun q hq => by rw [← hy]; exact setCells_other hq _ _ _
        have hq7 : w3.heap.size ≤ (w3.heap.size) := by exact Nat.le_refl _
        have hq6 := HT4.out.lt
        have hqm := HM4.out.lt
        have HEz := Lib.hid (HE7.out.kept (hot _ (by omega)))
        have HMz := Lib.hid (HM7.out.kept (hot _ (by omega)))
        have HTz := Lib.hid (HT7.out.kept (hot _ (by omega)))
        have HBz := Lib.hid (show Below w.heap.size w wz from by rw [← hy]; exact below_sets (by have := HB4.out.size; omega) _ _ _ HB7.out)
        have H7z := Lib.hid ht7
        clear ht7 hot hy hq7 hq6 hqm
        refine hK.out _ _ ⟨HEz.out.range, HMz.out.range⟩ (fun hHeld => ?_)
        clear hK K
        try simp only [Act.put, zq]
        refine wpAnyH_done (by kernel_rfl) ?_ 0
        have c5 := HMz.out.cell (j := 8) rfl
        obtain ⟨w8, hd8, ht8, hb8⟩ := done3 wz 2 ⟨#[]⟩ m.gas
        have HD8 := Lib.hid hd8
        have HT8 := Lib.hid ht8
        have HN8 := Lib.hid (HasCells.new wz [.int .i64 0, .string ⟨#[]⟩, .int .u64 0] 28)
        have HT68 := Lib.hid (HTz.out.after hb8)
        have H78 := Lib.hid (H7z.out.after hb8)
        have HB8 := Lib.hid (HBz.out.trans (hb8.mono HBz.out.size))
        clear hd8 ht8 hb8
        go_wp2_with (first | ((with_reducible refine store_gateK 28 ?_); refine wpList_store_mid rfl 28 _ _ rfl wz.heap.size 0 #[.int .i64 2, .string ⟨#[]⟩, .int .u64 m.gas] rfl rfl (HN8.out.there 0 _ (Nat.le_refl _)) infoDone (three_one _ _ _) ?_; rw [show ((#[.int .i64 2, .string ⟨#[]⟩, .int .u64 m.gas] : Array Value)).toList = ([.int .i64 2, .string ⟨#[]⟩, .int .u64 m.gas] : List Value) from rfl, HD8.out]) | ((with_reducible refine load_gateK 28 ?_); first | refine wpList_load_midK rfl 28 _ rfl wz.heap.size 0 rfl [.int .i64 2, .string ⟨#[]⟩, .int .u64 m.gas] _ HT8.out.range Tryz.underlying28 rfl infoDone ?_ | refine wpList_load_midK rfl 28 _ rfl (w3.heap.size) 0 rfl [.int .i64 2, .string ⟨#[]⟩, .int .u64 m.gas] _ H78.out.range Tryz.underlying28 rfl infoDone ?_ | refine wpList_load_midK rfl 28 _ rfl b3.heap.size 0 rfl [.int .i64 2, .string ⟨#[]⟩, .int .u64 m.gas] _ HT68.out.range Tryz.underlying28 rfl infoDone ?_))
        go_ret
        exact ⟨rfl, HB8.out⟩
  · clear c10 i10
    have c10 := HM3.out.cell (j := 10) rfl
    have HE4 := HE3
    have HM4 := HM3
    have HT4 := HT3
    have HB4 := HB3
    go_wp2_with ((with_reducible refine store_gateK 28 ?_); refine wpList_store_mid rfl 28 _ _ rfl b3.heap.size 0 #[.int .i64 2, .string ⟨#[]⟩, .int .u64 m.gas] rfl rfl (HZ3.out.there 0 _ (Nat.le_refl _)) infoDone (three_one _ _ _) ?_; rw [show ((#[.int .i64 2, .string ⟨#[]⟩, .int .u64 m.gas] : Array Value)).toList = ([.int .i64 2, .string ⟨#[]⟩, .int .u64 m.gas] : List Value) from rfl, HD3.out])
    refine wp_region_held_drew (S := (fun W => W.rangeAt w.heap.size 0 (envC org num) ∧ W.rangeAt (w.heap.size + 1) 0 (msgZ m z))) (by kernel_rfl) (⟨HE4.out.range, HM4.out.range⟩) (fun hHeld => ?_)
    refine hU 1 ?_ (hy := fun w0 hSw => run_envE hSw.1 rfl rfl)
    refine hU 2 ?_ (hy := fun w0 hSw => run_msgZ hSw.2 rfl rfl)
    refine wpAnyH_ready (rs := [0, 4]) (by kernel_rfl) (by simp) ?_
    refine AllReadyH.cons rfl (fun K hK => ?_) (AllReadyH.cons rfl (fun K hK => ?_) AllReadyH.nil)
    · go_simp
      go_at_call 33
      refine (new_any (.slice none 0 0) [] _ (.inl ⟨rfl, rfl⟩) (fun k hk => by cases hk) (by decide)).mono ?_
      rintro e w5 ⟨rfl, -, hb⟩
      have HE5 := Lib.hid (HE4.out.after ((Below.refl _ w3).drew.trans hb))
      have HM5 := Lib.hid (HM4.out.after ((Below.refl _ w3).drew.trans hb))
      have HT5 := Lib.hid (HT4.out.after ((Below.refl _ w3).drew.trans hb))
      have HB5 := Lib.hid (HB4.out.trans (((Below.refl _ w3).drew.trans hb).mono HB4.out.size))
      have HWS5 := Lib.hid (show w3.heap.size ≤ w5.heap.size from (((Below.refl _ w3).drew.trans hb)).size)
      clear hb
      refine hK.out _ _ ⟨HE5.out.range, HM5.out.range⟩ (fun hHeld => ?_)
      clear hK K
      try simp only [Act.put, zq]
      refine wpAnyH_ready (rs := [3, 4]) (by kernel_rfl) (by simp) ?_
      refine AllReadyH.cons rfl (fun K hK => ?_) (AllReadyH.cons rfl (fun K hK => ?_) AllReadyH.nil)
      · go_simp
        go_at_call 32
        refine (call_deep _ org num m z (.inl (by omega)) _).mono ?_
        rintro e w6 ⟨rfl, hb⟩
        have HE6 := Lib.hid (HE5.out.after hb)
        have HM6 := Lib.hid (HM5.out.after hb)
        have HT6 := Lib.hid (HT5.out.after hb)
        have HB6 := Lib.hid (HB5.out.trans (hb.mono HB5.out.size))
        have HWS6 := Lib.hid (show w3.heap.size ≤ w6.heap.size from Nat.le_trans HWS5.out (hb).size)
        clear hb
        refine hK.out _ _ ⟨HE6.out.range, HM6.out.range⟩ (fun hHeld => ?_)
        clear hK K
        try simp only [Act.put, zq]
        refine wpAnyH_ready (rs := [4]) (by kernel_rfl) (by simp) ?_
        refine AllReadyH.cons rfl (fun K hK => ?_) AllReadyH.nil
        go_simp
        have hz7 := HasCells.new (w6) [.int .i64 0, .string ⟨#[]⟩, .int .u64 0] 28
        obtain ⟨w7, hy⟩ : ∃ W, (w6).alloc (.cells #[.int .i64 0, .string ⟨#[]⟩, .int .u64 0] 28) = W := ⟨_, rfl⟩
        rw [show (w6).alloc (.cells ([.int .i64 0, .string ⟨#[]⟩, .int .u64 0] : List Value).toArray 28) = w7 from hy] at hz7
        rw [hy]
        have hb : Below (w6).heap.size (w6) w7 := by rw [← hy]; exact (Below.refl _ _).alloc (Nat.le_refl _) _
        have HE7 := Lib.hid (HE6.out.after hb)
        have HM7 := Lib.hid (HM6.out.after hb)
        have HT7 := Lib.hid (HT6.out.after hb)
        have HB7 := Lib.hid (HB6.out.trans (hb.mono HB6.out.size))
        have HWS7 := Lib.hid (show w3.heap.size ≤ w7.heap.size from Nat.le_trans HWS6.out (hb).size)
        have H77 := Lib.hid hz7
        clear hz7 hy hb
        refine hK.out _ _ ⟨HE7.out.range, HM7.out.range⟩ (fun hHeld => ?_)
        clear hK K
        try simp only [Act.put, zq]
        refine wpAnyH_ready (rs := [5]) (by kernel_rfl) (by simp) ?_
        refine AllReadyH.cons rfl (fun K hK => ?_) AllReadyH.nil
        refine step_storeK (by rfl) 28 _ _ rfl (w6.heap.size) 0 #[.int .i64 2, .string ⟨#[]⟩, .int .u64 m.gas] rfl rfl (H77.out.there 0 _ (Nat.le_refl _)) infoDone (three_one _ _ _) ?_
        have ht7 := H77.out.whole (vs := [.int .i64 2, .string ⟨#[]⟩, .int .u64 m.gas]) rfl
        obtain ⟨wz, hy⟩ : ∃ W, w7.setCells (w6.heap.size) 0 [.int .i64 2, .string ⟨#[]⟩, .int .u64 m.gas] = W := ⟨_, rfl⟩
        rw [hy] at ht7
        rw [show ((#[.int .i64 2, .string ⟨#[]⟩, .int .u64 m.gas] : Array Value)).toList = ([.int .i64 2, .string ⟨#[]⟩, .int .u64 m.gas] : List Value) from rfl, hy]
        have hot : ∀ q, q ≠ (w6.heap.size) → wz.heap[q]? = w7.heap[q]? := fun q hq => by rw [← hy]; exact setCells_other hq _ _ _
        have hq7 : w3.heap.size ≤ (w6.heap.size) := by exact HWS6.out
        have hq6 := HT4.out.lt
        have hqm := HM4.out.lt
        have HEz := Lib.hid (HE7.out.kept (hot _ (by omega)))
        have HMz := Lib.hid (HM7.out.kept (hot _ (by omega)))
        have HTz := Lib.hid (HT7.out.kept (hot _ (by omega)))
        have HBz := Lib.hid (show Below w.heap.size w wz from by rw [← hy]; exact below_sets (by have := HB4.out.size; omega) _ _ _ HB7.out)
        have H7z := Lib.hid ht7
        clear ht7 hot hy hq7 hq6 hqm
        refine hK.out _ _ ⟨HEz.out.range, HMz.out.range⟩ (fun hHeld => ?_)
        clear hK K
        try simp only [Act.put, zq]
        refine wpAnyH_done (by kernel_rfl) ?_ 0
        have c5 := HMz.out.cell (j := 8) rfl
        obtain ⟨w8, hd8, ht8, hb8⟩ := done3 wz 2 ⟨#[]⟩ m.gas
        have HD8 := Lib.hid hd8
        have HT8 := Lib.hid ht8
        have HN8 := Lib.hid (HasCells.new wz [.int .i64 0, .string ⟨#[]⟩, .int .u64 0] 28)
        have HT68 := Lib.hid (HTz.out.after hb8)
        have H78 := Lib.hid (H7z.out.after hb8)
        have HB8 := Lib.hid (HBz.out.trans (hb8.mono HBz.out.size))
        clear hd8 ht8 hb8
        go_wp2_with (first | ((with_reducible refine store_gateK 28 ?_); refine wpList_store_mid rfl 28 _ _ rfl wz.heap.size 0 #[.int .i64 2, .string ⟨#[]⟩, .int .u64 m.gas] rfl rfl (HN8.out.there 0 _ (Nat.le_refl _)) infoDone (three_one _ _ _) ?_; rw [show ((#[.int .i64 2, .string ⟨#[]⟩, .int .u64 m.gas] : Array Value)).toList = ([.int .i64 2, .string ⟨#[]⟩, .int .u64 m.gas] : List Value) from rfl, HD8.out]) | ((with_reducible refine load_gateK 28 ?_); first | refine wpList_load_midK rfl 28 _ rfl wz.heap.size 0 rfl [.int .i64 2, .string ⟨#[]⟩, .int .u64 m.gas] _ HT8.out.range Tryz.underlying28 rfl infoDone ?_ | refine wpList_load_midK rfl 28 _ rfl (w6.heap.size) 0 rfl [.int .i64 2, .string ⟨#[]⟩, .int .u64 m.gas] _ H78.out.range Tryz.underlying28 rfl infoDone ?_ | refine wpList_load_midK rfl 28 _ rfl b3.heap.size 0 rfl [.int .i64 2, .string ⟨#[]⟩, .int .u64 m.gas] _ HT68.out.range Tryz.underlying28 rfl infoDone ?_))
        go_ret
        exact ⟨rfl, HB8.out⟩
      · go_simp
        have hz7 := HasCells.new (w5) [.int .i64 0, .string ⟨#[]⟩, .int .u64 0] 28
        obtain ⟨w6, hy⟩ : ∃ W, (w5).alloc (.cells #[.int .i64 0, .string ⟨#[]⟩, .int .u64 0] 28) = W := ⟨_, rfl⟩
        rw [show (w5).alloc (.cells ([.int .i64 0, .string ⟨#[]⟩, .int .u64 0] : List Value).toArray 28) = w6 from hy] at hz7
        rw [hy]
        have hb : Below (w5).heap.size (w5) w6 := by rw [← hy]; exact (Below.refl _ _).alloc (Nat.le_refl _) _
        have HE6 := Lib.hid (HE5.out.after hb)
        have HM6 := Lib.hid (HM5.out.after hb)
        have HT6 := Lib.hid (HT5.out.after hb)
        have HB6 := Lib.hid (HB5.out.trans (hb.mono HB5.out.size))
        have HWS6 := Lib.hid (show w3.heap.size ≤ w6.heap.size from Nat.le_trans HWS5.out (hb).size)
        have H76 := Lib.hid hz7
        clear hz7 hy hb
        refine hK.out _ _ ⟨HE6.out.range, HM6.out.range⟩ (fun hHeld => ?_)
        clear hK K
        try simp only [Act.put, zq]
        refine wpAnyH_ready (rs := [3]) (by kernel_rfl) (by simp) ?_
        refine AllReadyH.cons rfl (fun K hK => ?_) AllReadyH.nil
        go_simp
        go_at_call 32
        refine (call_deep _ org num m z (.inl (by omega)) _).mono ?_
        rintro e w7 ⟨rfl, hb⟩
        have HE7 := Lib.hid (HE6.out.after hb)
        have HM7 := Lib.hid (HM6.out.after hb)
        have HT7 := Lib.hid (HT6.out.after hb)
        have HB7 := Lib.hid (HB6.out.trans (hb.mono HB6.out.size))
        have HWS7 := Lib.hid (show w3.heap.size ≤ w7.heap.size from Nat.le_trans HWS6.out (hb).size)
        have H77 := Lib.hid (H76.out.after hb)
        clear hb
        refine hK.out _ _ ⟨HE7.out.range, HM7.out.range⟩ (fun hHeld => ?_)
        clear hK K
        try simp only [Act.put, zq]
        refine wpAnyH_ready (rs := [5]) (by kernel_rfl) (by simp) ?_
        refine AllReadyH.cons rfl (fun K hK => ?_) AllReadyH.nil
        refine step_storeK (by rfl) 28 _ _ rfl (w5.heap.size) 0 #[.int .i64 2, .string ⟨#[]⟩, .int .u64 m.gas] rfl rfl (H77.out.there 0 _ (Nat.le_refl _)) infoDone (three_one _ _ _) ?_
        have ht7 := H77.out.whole (vs := [.int .i64 2, .string ⟨#[]⟩, .int .u64 m.gas]) rfl
        obtain ⟨wz, hy⟩ : ∃ W, w7.setCells (w5.heap.size) 0 [.int .i64 2, .string ⟨#[]⟩, .int .u64 m.gas] = W := ⟨_, rfl⟩
        rw [hy] at ht7
        rw [show ((#[.int .i64 2, .string ⟨#[]⟩, .int .u64 m.gas] : Array Value)).toList = ([.int .i64 2, .string ⟨#[]⟩, .int .u64 m.gas] : List Value) from rfl, hy]
        have hot : ∀ q, q ≠ (w5.heap.size) → wz.heap[q]? = w7.heap[q]? := fun q hq => by rw [← hy]; exact setCells_other hq _ _ _
        have hq7 : w3.heap.size ≤ (w5.heap.size) := by exact HWS5.out
        have hq6 := HT4.out.lt
        have hqm := HM4.out.lt
        have HEz := Lib.hid (HE7.out.kept (hot _ (by omega)))
        have HMz := Lib.hid (HM7.out.kept (hot _ (by omega)))
        have HTz := Lib.hid (HT7.out.kept (hot _ (by omega)))
        have HBz := Lib.hid (show Below w.heap.size w wz from by rw [← hy]; exact below_sets (by have := HB4.out.size; omega) _ _ _ HB7.out)
        have H7z := Lib.hid ht7
        clear ht7 hot hy hq7 hq6 hqm
        refine hK.out _ _ ⟨HEz.out.range, HMz.out.range⟩ (fun hHeld => ?_)
        clear hK K
        try simp only [Act.put, zq]
        refine wpAnyH_done (by kernel_rfl) ?_ 0
        have c5 := HMz.out.cell (j := 8) rfl
        obtain ⟨w8, hd8, ht8, hb8⟩ := done3 wz 2 ⟨#[]⟩ m.gas
        have HD8 := Lib.hid hd8
        have HT8 := Lib.hid ht8
        have HN8 := Lib.hid (HasCells.new wz [.int .i64 0, .string ⟨#[]⟩, .int .u64 0] 28)
        have HT68 := Lib.hid (HTz.out.after hb8)
        have H78 := Lib.hid (H7z.out.after hb8)
        have HB8 := Lib.hid (HBz.out.trans (hb8.mono HBz.out.size))
        clear hd8 ht8 hb8
        go_wp2_with (first | ((with_reducible refine store_gateK 28 ?_); refine wpList_store_mid rfl 28 _ _ rfl wz.heap.size 0 #[.int .i64 2, .string ⟨#[]⟩, .int .u64 m.gas] rfl rfl (HN8.out.there 0 _ (Nat.le_refl _)) infoDone (three_one _ _ _) ?_; rw [show ((#[.int .i64 2, .string ⟨#[]⟩, .int .u64 m.gas] : Array Value)).toList = ([.int .i64 2, .string ⟨#[]⟩, .int .u64 m.gas] : List Value) from rfl, HD8.out]) | ((with_reducible refine load_gateK 28 ?_); first | refine wpList_load_midK rfl 28 _ rfl wz.heap.size 0 rfl [.int .i64 2, .string ⟨#[]⟩, .int .u64 m.gas] _ HT8.out.range Tryz.underlying28 rfl infoDone ?_ | refine wpList_load_midK rfl 28 _ rfl (w5.heap.size) 0 rfl [.int .i64 2, .string ⟨#[]⟩, .int .u64 m.gas] _ H78.out.range Tryz.underlying28 rfl infoDone ?_ | refine wpList_load_midK rfl 28 _ rfl b3.heap.size 0 rfl [.int .i64 2, .string ⟨#[]⟩, .int .u64 m.gas] _ HT68.out.range Tryz.underlying28 rfl infoDone ?_))
        go_ret
        exact ⟨rfl, HB8.out⟩
    · go_simp
      have hz7 := HasCells.new w3 [.int .i64 0, .string ⟨#[]⟩, .int .u64 0] 28
      obtain ⟨w5, hy⟩ : ∃ W, (w3.alloc (.cells #[.int .i64 0, .string ⟨#[]⟩, .int .u64 0] 28)).drew = W := ⟨_, rfl⟩
      have hz7 : HasCells w5 w3.heap.size [.int .i64 0, .string ⟨#[]⟩, .int .u64 0] 28 := by rw [← hy]; exact hz7
      rw [hy]
      have hb : Below w3.heap.size w3 w5 := by rw [← hy]; exact ((Below.refl _ _).alloc (Nat.le_refl _) _).drew
      have HE5 := Lib.hid (HE4.out.after hb)
      have HM5 := Lib.hid (HM4.out.after hb)
      have HT5 := Lib.hid (HT4.out.after hb)
      have HB5 := Lib.hid (HB4.out.trans (hb.mono HB4.out.size))
      have HWS5 := Lib.hid (show w3.heap.size ≤ w5.heap.size from (hb).size)
      have H75 := Lib.hid hz7
      clear hz7 hy hb
      refine hK.out _ _ ⟨HE5.out.range, HM5.out.range⟩ (fun hHeld => ?_)
      clear hK K
      try simp only [Act.put, zq]
      refine wpAnyH_ready (rs := [0]) (by kernel_rfl) (by simp) ?_
      refine AllReadyH.cons rfl (fun K hK => ?_) AllReadyH.nil
      go_simp
      go_at_call 33
      refine (new_any (.slice none 0 0) [] _ (.inl ⟨rfl, rfl⟩) (fun k hk => by cases hk) (by decide)).mono ?_
      rintro e w6 ⟨rfl, -, hb⟩
      have HE6 := Lib.hid (HE5.out.after hb)
      have HM6 := Lib.hid (HM5.out.after hb)
      have HT6 := Lib.hid (HT5.out.after hb)
      have HB6 := Lib.hid (HB5.out.trans (hb.mono HB5.out.size))
      have HWS6 := Lib.hid (show w3.heap.size ≤ w6.heap.size from Nat.le_trans HWS5.out (hb).size)
      have H76 := Lib.hid (H75.out.after hb)
      clear hb
      refine hK.out _ _ ⟨HE6.out.range, HM6.out.range⟩ (fun hHeld => ?_)
      clear hK K
      try simp only [Act.put, zq]
      refine wpAnyH_ready (rs := [3]) (by kernel_rfl) (by simp) ?_
      refine AllReadyH.cons rfl (fun K hK => ?_) AllReadyH.nil
      go_simp
      go_at_call 32
      refine (call_deep _ org num m z (.inl (by omega)) _).mono ?_
      rintro e w7 ⟨rfl, hb⟩
      have HE7 := Lib.hid (HE6.out.after hb)
      have HM7 := Lib.hid (HM6.out.after hb)
      have HT7 := Lib.hid (HT6.out.after hb)
      have HB7 := Lib.hid (HB6.out.trans (hb.mono HB6.out.size))
      have HWS7 := Lib.hid (show w3.heap.size ≤ w7.heap.size from Nat.le_trans HWS6.out (hb).size)
      have H77 := Lib.hid (H76.out.after hb)
      clear hb
      refine hK.out _ _ ⟨HE7.out.range, HM7.out.range⟩ (fun hHeld => ?_)
      clear hK K
      try simp only [Act.put, zq]
      refine wpAnyH_ready (rs := [5]) (by kernel_rfl) (by simp) ?_
      refine AllReadyH.cons rfl (fun K hK => ?_) AllReadyH.nil
      refine step_storeK (by rfl) 28 _ _ rfl (w3.heap.size) 0 #[.int .i64 2, .string ⟨#[]⟩, .int .u64 m.gas] rfl rfl (H77.out.there 0 _ (Nat.le_refl _)) infoDone (three_one _ _ _) ?_
      have ht7 := H77.out.whole (vs := [.int .i64 2, .string ⟨#[]⟩, .int .u64 m.gas]) rfl
      obtain ⟨wz, hy⟩ : ∃ W, w7.setCells (w3.heap.size) 0 [.int .i64 2, .string ⟨#[]⟩, .int .u64 m.gas] = W := ⟨_, rfl⟩
      rw [hy] at ht7
      rw [show ((#[.int .i64 2, .string ⟨#[]⟩, .int .u64 m.gas] : Array Value)).toList = ([.int .i64 2, .string ⟨#[]⟩, .int .u64 m.gas] : List Value) from rfl, hy]
      have hot : ∀ q, q ≠ (w3.heap.size) → wz.heap[q]? = w7.heap[q]? := fun q hq => by rw [← hy]; exact setCells_other hq _ _ _
      have hq7 : w3.heap.size ≤ (w3.heap.size) := by exact Nat.le_refl _
      have hq6 := HT4.out.lt
      have hqm := HM4.out.lt
      have HEz := Lib.hid (HE7.out.kept (hot _ (by omega)))
      have HMz := Lib.hid (HM7.out.kept (hot _ (by omega)))
      have HTz := Lib.hid (HT7.out.kept (hot _ (by omega)))
      have HBz := Lib.hid (show Below w.heap.size w wz from by rw [← hy]; exact below_sets (by have := HB4.out.size; omega) _ _ _ HB7.out)
      have H7z := Lib.hid ht7
      clear ht7 hot hy hq7 hq6 hqm
      refine hK.out _ _ ⟨HEz.out.range, HMz.out.range⟩ (fun hHeld => ?_)
      clear hK K
      try simp only [Act.put, zq]
      refine wpAnyH_done (by kernel_rfl) ?_ 0
      have c5 := HMz.out.cell (j := 8) rfl
      obtain ⟨w8, hd8, ht8, hb8⟩ := done3 wz 2 ⟨#[]⟩ m.gas
      have HD8 := Lib.hid hd8
      have HT8 := Lib.hid ht8
      have HN8 := Lib.hid (HasCells.new wz [.int .i64 0, .string ⟨#[]⟩, .int .u64 0] 28)
      have HT68 := Lib.hid (HTz.out.after hb8)
      have H78 := Lib.hid (H7z.out.after hb8)
      have HB8 := Lib.hid (HBz.out.trans (hb8.mono HBz.out.size))
      clear hd8 ht8 hb8
      go_wp2_with (first | ((with_reducible refine store_gateK 28 ?_); refine wpList_store_mid rfl 28 _ _ rfl wz.heap.size 0 #[.int .i64 2, .string ⟨#[]⟩, .int .u64 m.gas] rfl rfl (HN8.out.there 0 _ (Nat.le_refl _)) infoDone (three_one _ _ _) ?_; rw [show ((#[.int .i64 2, .string ⟨#[]⟩, .int .u64 m.gas] : Array Value)).toList = ([.int .i64 2, .string ⟨#[]⟩, .int .u64 m.gas] : List Value) from rfl, HD8.out]) | ((with_reducible refine load_gateK 28 ?_); first | refine wpList_load_midK rfl 28 _ rfl wz.heap.size 0 rfl [.int .i64 2, .string ⟨#[]⟩, .int .u64 m.gas] _ HT8.out.range Tryz.underlying28 rfl infoDone ?_ | refine wpList_load_midK rfl 28 _ rfl (w3.heap.size) 0 rfl [.int .i64 2, .string ⟨#[]⟩, .int .u64 m.gas] _ H78.out.range Tryz.underlying28 rfl infoDone ?_ | refine wpList_load_midK rfl 28 _ rfl b3.heap.size 0 rfl [.int .i64 2, .string ⟨#[]⟩, .int .u64 m.gas] _ HT68.out.range Tryz.underlying28 rfl infoDone ?_))
      go_ret
      exact ⟨rfl, HB8.out⟩
end Go.Proofs.YtlelgbmbmajfmaaGreatDoor

namespace Go.Proofs.YtlelgbmbmajfmaaGreatDoor
open Go.RowKit Go.ChangeShapes Go.WideShapes
theorem ofLimbs_lt {a b c d : Nat} (ha : a < 18446744073709551616) (hb : b < 18446744073709551616) (hc : c < 18446744073709551616) (hd : d < 18446744073709551616) : ofLimbs a b c d < 256 ^ 32 := by
  unfold ofLimbs; rw [p8, p16, p24, p32]; omega
theorem u64_natO {n : Int} (h : (Lit.int .u64 n).wf = true) : ∃ k : Nat, n = k ∧ k < 18446744073709551616 := by
  have h1 : IntKind.u64.min ≤ n ∧ n ≤ IntKind.u64.max := by simpa [Lit.wf] using h
  have h2 : IntKind.u64.min = 0 := by decide
  have h3 : IntKind.u64.max = 18446744073709551615 := by decide
  rw [h2, h3] at h1
  exact ⟨n.toNat, by omega, by omega⟩
set_option maxRecDepth 100000 in
theorem word_of_trod {H : Type} {enc : TypeId × Value → H} {W : World} {fuel : Nat} {cs : List Value} {x : DataW H × List MemPlace} (h : DataW.trod enc Tryz.prog W 0 (fun _ => true) true fuel 24 cs = some x) :
    ∃ v, v < 256 ^ 32 ∧ cs = [.int .u64 (limb v 0), .int .u64 (limb v 1), .int .u64 (limb v 2), .int .u64 (limb v 3)] := by
  obtain ⟨xs, m, rfl, rfl, hl, hlen, hf⟩ := DataW.trod_array Tryz.underlying24 h
  have hc4 : Tryz.prog.cellsOf 24 = 4 := by kernel_rfl
  have hc1 : Tryz.prog.cellsOf 22 = 1 := by kernel_rfl
  rw [hc4] at hl
  rw [hc1] at hf
  match cs, hl, xs, hlen with
  | [c0, c1, c2, c3], _, [y0, y1, y2, y3], _ =>
    have h0 := hf 0 (by omega)
    have h1 := hf 1 (by omega)
    have h2 := hf 2 (by omega)
    have h3 := hf 3 (by omega)
    obtain ⟨n0, e0, -, f0⟩ := DataW.trod_int Tryz.underlying22 h0
    obtain ⟨n1, e1, -, f1⟩ := DataW.trod_int Tryz.underlying22 h1
    obtain ⟨n2, e2, -, f2⟩ := DataW.trod_int Tryz.underlying22 h2
    obtain ⟨n3, e3, -, f3⟩ := DataW.trod_int Tryz.underlying22 h3
    cases e0; cases e1; cases e2; cases e3
    obtain ⟨k0, rfl, g0⟩ := u64_natO f0
    obtain ⟨k1, rfl, g1⟩ := u64_natO f1
    obtain ⟨k2, rfl, g2⟩ := u64_natO f2
    obtain ⟨k3, rfl, g3⟩ := u64_natO f3
    obtain ⟨l0, l1, l2, l3⟩ := limb_ofLimbs g0 g1 g2 g3
    exact ⟨ofLimbs k0 k1 k2 k3, ofLimbs_lt g0 g1 g2 g3, by rw [l0, l1, l2, l3]⟩
theorem toList_back (s : ByteArray) : (⟨s.data.toList.toArray⟩ : ByteArray) = s := by cases s; simp
set_option maxRecDepth 100000 in
theorem open_env {H : Type} {enc : TypeId × Value → H} {W : World} {r : Reach} {b0 : Nat} {v : Value} {d : DataW H} {ps : List MemPlace} (hval : Value.okWide Tryz.prog W r b0 41 v) (hd : DataW.Trod enc Tryz.prog W 0 (fun _ => true) true 41 v d ps) :
    ∃ (org : ByteArray) (num : Nat), v = .agg #[.string org, .int .u64 num] := by
  obtain ⟨cs, rfl, _⟩ := okWide_struct Tryz.underlying41 hval
  obtain ⟨fuel, h⟩ := hd
  obtain ⟨xs, m, rfl, hx, hl, hlen, hf⟩ := DataW.trod_struct Tryz.underlying41 h
  have hc : Tryz.prog.cellsOf 41 = 2 := by kernel_rfl
  obtain ⟨cs⟩ := cs
  simp only [Value.cells] at hl hf
  rw [hc] at hl
  match cs, hl, xs, hlen with
  | [c0, c1], _, [y0, y1], _ =>
    have h0 := hf 0 _ rfl
    have h1 := hf 1 _ rfl
    obtain ⟨s0, e0, -, -⟩ := DataW.trod_string Tryz.underlying9 h0
    obtain ⟨n1, e1, -, f1⟩ := DataW.trod_int Tryz.underlying22 h1
    cases e0; cases e1
    obtain ⟨k1, rfl, -⟩ := u64_natO f1
    exact ⟨s0, k1, rfl⟩
set_option maxRecDepth 100000 in
theorem open_msg {H : Type} {enc : TypeId × Value → H} {W : World} {r : Reach} {b0 : Nat} {v : Value} {d : DataW H} {ps : List MemPlace} (hval : Value.okWide Tryz.prog W r b0 43 v) (hd : DataW.Trod enc Tryz.prog W 0 (fun _ => true) true 43 v d ps) :
    ∃ (m : MsgE) (z : Int), v = .agg (msgZ m z).toArray := by
  obtain ⟨cs, rfl, _⟩ := okWide_struct Tryz.underlying43 hval
  obtain ⟨fuel, h⟩ := hd
  obtain ⟨xs, m, rfl, hx, hl, hlen, hf⟩ := DataW.trod_struct Tryz.underlying43 h
  have hc : Tryz.prog.cellsOf 43 = 12 := by kernel_rfl
  obtain ⟨cs⟩ := cs
  simp only [Value.cells] at hl hf
  rw [hc] at hl
  match cs, hl, xs, hlen with
  | [c0, c1, c2, c3, c4, c5, c6, c7, c8, c9, c10, c11], _, [y0, y1, y2, y3, y4, y5, y6, y7, y8], _ =>
    have h0 := hf 0 _ rfl
    have h1 := hf 1 _ rfl
    have h2 := hf 2 _ rfl
    have h3 := hf 3 _ rfl
    have h4 := hf 4 _ rfl
    have h5 := hf 5 _ rfl
    have h6 := hf 6 _ rfl
    have h7 := hf 7 _ rfl
    have h8 := hf 8 _ rfl
    obtain ⟨s0, e0, -, -⟩ := DataW.trod_string Tryz.underlying9 h0
    obtain ⟨s1, e1, -, -⟩ := DataW.trod_string Tryz.underlying9 h1
    obtain ⟨s2, e2, -, -⟩ := DataW.trod_string Tryz.underlying9 h2
    obtain ⟨b, hb, eb⟩ := word_of_trod h3
    obtain ⟨s4, e4, -, -⟩ := DataW.trod_string Tryz.underlying9 h4
    obtain ⟨n5, e5, -, f5⟩ := DataW.trod_int Tryz.underlying22 h5
    obtain ⟨b6, e6, -⟩ := DataW.trod_bool Tryz.underlying4 h6
    obtain ⟨n7, e7, -, -⟩ := DataW.trod_int Tryz.underlying3 h7
    obtain ⟨b8, e8, -⟩ := DataW.trod_bool Tryz.underlying4 h8
    cases e0; cases e1; cases e2; cases eb; cases e4; cases e5; cases e6; cases e7; cases e8
    obtain ⟨k5, rfl, -⟩ := u64_natO f5
    refine ⟨⟨s0, s1, s2, b, s4.data.toList, k5, b6, 0, b8⟩, n7, ?_⟩
    unfold msgZ
    rw [show (⟨(MsgE.data ⟨s0, s1, s2, b, s4.data.toList, k5, b6, 0, b8⟩).toArray⟩ : ByteArray) = s4 from toList_back s4]
end Go.Proofs.YtlelgbmbmajfmaaGreatDoor
