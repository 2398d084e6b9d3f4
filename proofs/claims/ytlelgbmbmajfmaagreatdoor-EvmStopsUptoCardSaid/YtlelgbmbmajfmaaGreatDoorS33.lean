/- What the walks take: DonA, CalA, ShoA, RunB, ShoB, CamA, StpA, EnoL, EslL, EvO, StpR. -/
import Derived.Test.YtlelgbmbmajfmaaGreatDoorS25
import Derived.Test.YtlelgbmbmajfmaaGreatDoorS27
import Derived.Test.YtlelgbmbmajfmaaGreatDoorS29
import Derived.Test.YtlelgbmbmajfmaaGreatDoorS31
import Derived.Test.YtlelgbmbmajfmaaGreatDoorS32
import Derived.Test.YtlelgbmbmajfmaaGreatDoorRows
import Derived.Deep.Slices
import Derived.ChangeArms
import Derived.DataReads
import Derived.OpenShut
namespace Go.Proofs.YtlelgbmbmajfmaaGreatDoor
open Go.RowKit Go.Shelf Go.Lib
attribute [local go_sem] Oper.semAt_some
/-- a message -/
structure MsgE where
  src : ByteArray
  dst : ByteArray
  who : ByteArray
  value : Nat
  data : List UInt8
  gas : Nat
  still : Bool
  depth : Nat
  stays : Bool
def msgC (m : MsgE) : List Value := [.string m.src, .string m.dst, .string m.who, .int .u64 (limb m.value 0), .int .u64 (limb m.value 1), .int .u64 (limb m.value 2), .int .u64 (limb m.value 3), .string ⟨m.data.toArray⟩, .int .u64 m.gas, .bool m.still, .int .i64 m.depth, .bool m.stays]
def envC (org : ByteArray) (num : Nat) : List Value := [.string org, .int .u64 num]
theorem infoMsg : (Tryz.prog.info? 43).map (·.size) = some 12 := by kernel_rfl
theorem infoEnv : (Tryz.prog.info? 41).map (·.size) = some 2 := by kernel_rfl
theorem infoDone : (Tryz.prog.info? 28).map (·.size) = some 3 := by kernel_rfl
def doneC (how : Nat) (out : List UInt8) (left : Nat) : List Value := [.int .i64 how, .string ⟨out.toArray⟩, .int .u64 left]
/-- what a frame that has ended gives -/
def doneV (f : FrE) : List Value := if f.how = 2 ∨ f.how = 3 then doneC f.how [] 0 else doneC f.how f.out f.gas
def frame0 (s : Value) (org : ByteArray) (num : Nat) (m : MsgE) (c : List UInt8) (tos : Value) : FrE :=
  { s := s, origin := org, number := num, src := m.src, dst := m.dst, who := m.who, value := m.value, data := m.data, mgas := m.gas, still := m.still, depth := m.depth, stays := m.stays, code := c, tos := tos, stk := .slice none 0 0, stkL := [], mem := [], back := [], gas := m.gas, pc := 0, next := 0, how := 0, out := [], ended := false }
def noReady (a : ByteArray) : Bool := !Lib.hasPrefix a.data.toList (List.replicate 19 0)
theorem run_loadR {o : Oper} {a : Act} {w : World} {x : Operand} (T : TypeId) (ho : o.op = .load T x) {b q : Nat} {cs : List Value} {d : TypeDesc} (hx : a.eval x = .pointer (some ⟨b, q, none⟩)) (h : w.rangeAt b q cs) (hu : Tryz.prog.underlying T = some d) (hd : d.isRow = true) (hi : (Tryz.prog.info? T).map (·.size) = some cs.length) : (execOp a.eval o).run Tryz.prog w = .ok (.value (.agg cs.toArray)) w := by
  simp only [execOp, ho, hx, Instr.loadAt, Instr.sureAddr, Sem.run_bind, Sem.run_pure, Result.andThen_ok, run_loadVar_mid w b q _ _ _ h hu hd hi]
set_option maxRecDepth 100000 in
set_option maxHeartbeats 6400000 in
theorem ready_no (m : MsgE) (w : World) (hn : noReady m.who = true) (hd : m.data.length ≤ 1099511627776) : Calls Tryz.prog 77 #[.agg #[.string m.src, .string m.dst, .string m.who, .int .u64 (limb m.value 0), .int .u64 (limb m.value 1), .int .u64 (limb m.value 2), .int .u64 (limb m.value 3), .string ⟨m.data.toArray⟩, .int .u64 m.gas, .bool m.still, .int .i64 m.depth, .bool m.stays]] w fun e w' => e = .returned (.tuple #[.string ⟨#[]⟩, .int .u64 0, .bool false]) ∧ Below w.heap.size w w' := by
  have hz1 := HasCells.new w (msgC m) 43
  obtain ⟨w1, hw1⟩ : ∃ W, w.alloc (.cells #[.string m.src, .string m.dst, .string m.who, .int .u64 (limb m.value 0), .int .u64 (limb m.value 1), .int .u64 (limb m.value 2), .int .u64 (limb m.value 3), .string ⟨m.data.toArray⟩, .int .u64 m.gas, .bool m.still, .int .i64 m.depth, .bool m.stays] 43) = W := ⟨_, rfl⟩
  rw [show w.alloc (.cells (msgC m).toArray 43) = w1 from hw1] at hz1
  have HZ1 := Lib.hid hz1
  have HB1 := Lib.hid (show Below w.heap.size w w1 from by rw [← hw1]; exact (Below.refl _ _).alloc (Nat.le_refl _) _)
  have HW1 := Lib.hid hw1
  obtain ⟨N, hN⟩ : ∃ N, m.data.length = N := ⟨_, rfl⟩
  have hsz : (⟨m.data.toArray⟩ : ByteArray).size = N := by rw [sizeE, hN]
  have c4 := hz1.cell (j := 7) rfl
  have c2 := hz1.cell (j := 2) rfl
  have k1 : IntKind.u64.wrap (N : Int) = (N : Int) := by rw [IntKind.wrap_u64]; omega
  have k2 : IntKind.u64.wrap ((N : Int) + 31) = (N : Int) + 31 := by rw [IntKind.wrap_u64]; omega
  have k3 : ((N : Int) + 31).tdiv 32 = (((N + 31) / 32 : Nat) : Int) := by rw [Int.tdiv_eq_ediv_of_nonneg (by omega)]; omega
  have k4 : IntKind.u64.wrap (((N + 31) / 32 : Nat) : Int) = (((N + 31) / 32 : Nat) : Int) := by rw [IntKind.wrap_u64]; omega
  have hp : Lib.hasPrefix m.who.data.toList (List.replicate 19 0) = false := by unfold noReady at hn; simpa using hn
  have HP := Lib.hid hp
  clear hz1 hw1 hn hN
  go_enter Tryz.func77, Tryz.ntmps77
  go_wp2_with (rw [HW1.out])
  refine wp_region_held_drew (S := (fun W => W.cell? ⟨w.heap.size, 2, none⟩ = some (.string m.who))) (by kernel_rfl) (c2) (fun hHeld => ?_)
  refine hT 0 ?_
  refine hD 1 ?_
  refine wpAnyH_ready (rs := [2]) (by kernel_rfl) (by simp) ?_
  refine AllReadyH.cons rfl (fun K hK => ?_) AllReadyH.nil
  go_simp
  go_at_call 84
  refine (zerosE 19 (by decide) _).mono ?_
  rintro e w2 ⟨rfl, hb2⟩
  have HB2 := Lib.hid (HB1.out.trans (((Below.refl _ w1).drew.trans hb2).mono HB1.out.size))
  have HZ2 := Lib.hid (HZ1.out.after ((Below.refl _ w1).drew.trans hb2))
  clear hb2
  refine hK.out _ _ (HZ2.out.cell (j := 2) rfl) (fun hHeld => ?_)
  clear hK K
  try simp only [Act.put, zq]
  refine wpAnyH_ready (rs := [3]) (by kernel_rfl) (by simp) ?_
  refine AllReadyH.cons rfl (fun K hK => ?_) AllReadyH.nil
  go_simp
  go_at_call 92
  refine (Tryz.strings_CutPrefix m.who ⟨(List.replicate 19 0).toArray⟩ _).mono ?_
  rintro e w3 ⟨rfl, hw3⟩
  have HB3 := Lib.hid (show Below w.heap.size w w3 from by rw [hw3]; exact HB2.out)
  have HZ3 := Lib.hid (show HasCells w3 w.heap.size (msgC m) 43 from by rw [hw3]; exact HZ2.out)
  clear hw3
  rw [show (⟨(List.replicate 19 0).toArray⟩ : ByteArray).data.toList = List.replicate 19 0 from rfl, HP.out]
  refine hK.out _ _ (HZ3.out.cell (j := 2) rfl) (fun hHeld => ?_)
  clear hK K
  try simp only [Act.put, zq]
  refine hT 4 ?_
  refine hT 5 ?_
  refine hT 6 ?_
  refine hT 7 ?_
  refine hT 8 ?_
  refine wpAnyH_done (by kernel_rfl) ?_ 0
  go_wp2
  refine bodyPost_ret (results_tmp3E rfl _ _) rfl ?_
  exact ⟨rfl, HB3.out⟩
theorem run_env {o : Oper} {a : Act} {w : World} {x : Operand} {b q : Nat} {org : ByteArray} {num : Nat} (h : w.rangeAt b q (envC org num)) (ho : o.op = .load 41 x) (hx : a.eval x = .pointer (some ⟨b, q, none⟩)) : (execOp a.eval o).run Tryz.prog w = .ok (.value (.agg #[.string org, .int .u64 num])) w := run_loadR 41 ho hx h Tryz.underlying41 rfl infoEnv
theorem run_msg {o : Oper} {a : Act} {w : World} {x : Operand} {b q : Nat} {m : MsgE} (h : w.rangeAt b q (msgC m)) (ho : o.op = .load 43 x) (hx : a.eval x = .pointer (some ⟨b, q, none⟩)) : (execOp a.eval o).run Tryz.prog w = .ok (.value (.agg #[.string m.src, .string m.dst, .string m.who, .int .u64 (limb m.value 0), .int .u64 (limb m.value 1), .int .u64 (limb m.value 2), .int .u64 (limb m.value 3), .string ⟨m.data.toArray⟩, .int .u64 m.gas, .bool m.still, .int .i64 m.depth, .bool m.stays])) w := run_loadR 43 ho hx h Tryz.underlying43 rfl infoMsg
theorem IntsAt.form {w : World} {v : Value} {js : List Nat} {B : Nat} (h : IntsAt w v js B) : ∃ p n c, v = .slice p n c := by
  rcases h with ⟨_, a, c, h⟩ | ⟨b, c, h, _⟩
  · exact ⟨a, 0, c, h⟩
  · exact ⟨_, _, _, h⟩
/-- the boxes of done's arguments, and of what it gives -/
def boxW (w : World) (org : ByteArray) (num : Nat) (m : MsgE) : World := ((w.alloc (.cells #[.string org, .int .u64 num] 41)).alloc (.cells #[.string m.src, .string m.dst, .string m.who, .int .u64 (limb m.value 0), .int .u64 (limb m.value 1), .int .u64 (limb m.value 2), .int .u64 (limb m.value 3), .string ⟨m.data.toArray⟩, .int .u64 m.gas, .bool m.still, .int .i64 m.depth, .bool m.stays] 43)).alloc (.cells #[.int .i64 0, .string ⟨#[]⟩, .int .u64 0] 28)
structure BoxAt (w : World) (org : ByteArray) (num : Nat) (m : MsgE) (W : World) : Prop where
  env : HasCells W w.heap.size (envC org num) 41
  msg : HasCells W (w.heap.size + 1) (msgC m) 43
  don : HasCells W (w.heap.size + 2) [.int .i64 0, .string ⟨#[]⟩, .int .u64 0] 28
  size : w.heap.size + 3 ≤ W.heap.size
  below : Below w.heap.size w W
theorem BoxAt.after {w W W' : World} {org : ByteArray} {num : Nat} {m : MsgE} (h : BoxAt w org num m W) (hb : Below W.heap.size W W') : BoxAt w org num m W' :=
  ⟨h.env.after hb, h.msg.after hb, h.don.after hb, Nat.le_trans h.size hb.size, h.below.trans (hb.mono h.below.size)⟩
theorem box_at (w : World) (org : ByteArray) (num : Nat) (m : MsgE) : BoxAt w org num m (boxW w org num m) := by
  have e : ∀ (W : World) (o : Obj), (W.alloc o).heap.size = W.heap.size + 1 := fun W o => World.size_alloc _ _
  refine ⟨?_, ?_, ?_, ?_, ?_⟩
  · exact ((HasCells.new w (envC org num) 41).alloc _).alloc _
  · have h := HasCells.new (w.alloc (.cells (envC org num).toArray 41)) (msgC m) 43
    rw [e] at h
    exact h.alloc _
  · have h := HasCells.new ((w.alloc (.cells (envC org num).toArray 41)).alloc (.cells (msgC m).toArray 43)) [.int .i64 0, .string ⟨#[]⟩, .int .u64 0] 28
    rw [e, e] at h
    exact h
  · show _ ≤ ((((w.alloc _).alloc _).alloc _) : World).heap.size
    rw [e, e, e]
    omega
  · exact (((Below.refl _ w).alloc (Nat.le_refl _) _).alloc (by rw [e]; omega) _).alloc (by rw [e, e]; omega) _
theorem three_one (a : Int) (b : ByteArray) (c : Int) : (#[.int .i64 a, .string b, .int .u64 c] : Array Value).all (·.oneCell') = true := by simp [Value.oneCell']
set_option maxRecDepth 100000 in
set_option maxHeartbeats 6400000 in
theorem done_miss (B : Nat) (S : StE) (org : ByteArray) (num : Nat) (m : MsgE) (w : World) (hs : StAt B w S) (hK : KecT w) (hok : ∀ k, S.kn m.who = some k → KnOk k) (hn : noReady m.who = true) (hd : m.data.length ≤ 1099511627776) (hc : codeN S m.who = 190) :
    Calls Tryz.prog 59 #[.pointer (some ⟨B + 6, 0, none⟩), .agg #[.string org, .int .u64 num], .agg #[.string m.src, .string m.dst, .string m.who, .int .u64 (limb m.value 0), .int .u64 (limb m.value 1), .int .u64 (limb m.value 2), .int .u64 (limb m.value 3), .string ⟨m.data.toArray⟩, .int .u64 m.gas, .bool m.still, .int .i64 m.depth, .bool m.stays]] w fun e w' => e = .returned (.agg (doneC 3 [] 0).toArray) ∧ Below w.heap.size w w' := by
  have hbx := box_at w org num m
  obtain ⟨w1, hw1⟩ : ∃ W, boxW w org num m = W := ⟨_, rfl⟩
  rw [hw1] at hbx
  have HBX := Lib.hid hbx
  have HS1 := Lib.hid (hs.after hbx.below)
  have HRD := Lib.hid (fun W => ready_no m W hn hd)
  have HCD := Lib.hid (fun W (h : StAt B W S) (hk : KecT W) => code_any B S m.who W h hk hok)
  have HK1 := Lib.hid (hK.below hbx.below)
  rw [hc] at HCD
  obtain ⟨C, hC⟩ : ∃ C, codeC S m.who = C := ⟨_, rfl⟩
  rw [hC] at HCD
  have HW1 := Lib.hid hw1
  clear hs hK hok hn hd hc hC hbx hw1
  go_enter Tryz.func59, Tryz.ntmps59
  go_wp2_with fail
  unfold boxW at HW1
  rw [HW1.out]
  refine wp_scope_straight ?_
  go_wp2_with ((with_reducible refine load_gateK 43 ?_); refine wpList_load_midK rfl 43 _ rfl (w.heap.size + 1) 0 rfl (msgC m) _ HBX.out.msg.range Tryz.underlying43 rfl infoMsg ?_)
  refine (HRD.out _).mono ?_
  rintro e w2 ⟨rfl, hb2⟩
  have hbx2 := HBX.out.after hb2
  have c2 := hbx2.msg.cell (j := 2) rfl
  have HBX2 := Lib.hid hbx2
  have HS2 := Lib.hid (HS1.out.after hb2)
  have HK2 := Lib.hid (HK1.out.below hb2)
  clear hb2 hbx2
  go_wp2_with fail
  refine (HCD.out _ HS2.out HK2.out).mono ?_
  rintro e w3 ⟨rfl, hb3⟩
  have HBX3 := Lib.hid (HBX2.out.after hb3)
  have HS3 := Lib.hid (HS2.out.after hb3)
  clear hb3 c2
  go_wp2_with ((with_reducible refine store_gateK 28 ?_); refine wpList_store_mid rfl 28 _ _ rfl (w.heap.size + 2) 0 #[.int .i64 3, .string ⟨#[]⟩, .int .u64 0] rfl rfl (HBX3.out.don.there 0 _ (Nat.le_refl _)) infoDone (three_one _ _ _) ?_)
  have hf := HBX3.out.don.whole (vs := doneC 3 [] 0) rfl
  dsimp only [Exit.noGoto]
  refine bodyPost_ret (results_cells rfl _ _ (w.heap.size + 2) (doneC 3 [] 0) _ (by rfl) hf.range Tryz.underlying28 rfl infoDone) rfl ⟨rfl, below_sets (by omega) _ _ _ HBX3.out.below⟩
set_option maxRecDepth 100000 in
set_option maxHeartbeats 6400000 in
theorem done_code (B : Nat) (S : StE) (org : ByteArray) (num : Nat) (m : MsgE) (w : World) (hs : StAt B w S) (hK : KecT w) (hok : ∀ k, S.kn m.who = some k → KnOk k) (hn : noReady m.who = true) (hd : m.data.length ≤ 1099511627776) (hc : codeN S m.who = 0)
    (c : List UInt8) (hcc : codeC S m.who = ⟨c.toArray⟩) (hcl : c.length ≤ 1099511627776) (R : World → FrE → Prop) (n : Nat)
    (HR : ∀ p tos W, StAt B W S → Below w.heap.size w W → w.heap.size ≤ p → IntsAt W tos (jmpsC c) p → Fra p W (frame0 (.pointer (some ⟨B + 6, 0, none⟩)) org num m c tos) → RunTo p (fun W' f' => Below p W W' ∧ R W' f') n W (frame0 (.pointer (some ⟨B + 6, 0, none⟩)) org num m c tos)) :
    Calls Tryz.prog 59 #[.pointer (some ⟨B + 6, 0, none⟩), .agg #[.string org, .int .u64 num], .agg #[.string m.src, .string m.dst, .string m.who, .int .u64 (limb m.value 0), .int .u64 (limb m.value 1), .int .u64 (limb m.value 2), .int .u64 (limb m.value 3), .string ⟨m.data.toArray⟩, .int .u64 m.gas, .bool m.still, .int .i64 m.depth, .bool m.stays]] w fun e w' => ∃ W' f', R W' f' ∧ e = .returned (.agg (doneV f').toArray) ∧ Below w.heap.size w w' := by
  have hbx := box_at w org num m
  obtain ⟨w1, hw1⟩ : ∃ W, boxW w org num m = W := ⟨_, rfl⟩
  rw [hw1] at hbx
  have HBX := Lib.hid hbx
  have HS1 := Lib.hid (hs.after hbx.below)
  have HRD := Lib.hid (fun W => ready_no m W hn hd)
  have HCD := Lib.hid (fun W (h : StAt B W S) (hk : KecT W) => code_any B S m.who W h hk hok)
  have HK1 := Lib.hid (hK.below hbx.below)
  rw [hc, hcc] at HCD
  have HJU := Lib.hid (fun W => jumps_any c W hcl)
  have HRR := Lib.hid HR
  have HLT := Lib.hid hs.lt
  have HW1 := Lib.hid hw1
  clear hs hK hok hn hd hc hcc hbx hw1 HR hcl
  go_enter Tryz.func59, Tryz.ntmps59
  go_wp2_with fail
  unfold boxW at HW1
  rw [HW1.out]
  refine wp_scope_straight ?_
  go_wp2_with ((with_reducible refine load_gateK 43 ?_); refine wpList_load_midK rfl 43 _ rfl (w.heap.size + 1) 0 rfl (msgC m) _ HBX.out.msg.range Tryz.underlying43 rfl infoMsg ?_)
  refine (HRD.out _).mono ?_
  rintro e w2 ⟨rfl, hb2⟩
  have hbx2 := HBX.out.after hb2
  have c2 := hbx2.msg.cell (j := 2) rfl
  have HBX2 := Lib.hid hbx2
  have HS2 := Lib.hid (HS1.out.after hb2)
  have HK2 := Lib.hid (HK1.out.below hb2)
  clear hb2 hbx2
  go_wp2_with fail
  refine (HCD.out _ HS2.out HK2.out).mono ?_
  rintro e w3 ⟨rfl, hb3⟩
  have HBX3 := Lib.hid (HBX2.out.after hb3)
  have HS3 := Lib.hid (HS2.out.after hb3)
  clear hb3 c2
  go_wp2_with fail
  have HB3 := Lib.hid HBX3.out.below
  refine wp_region_held_drew (S := (fun W => W.rangeAt w.heap.size 0 (envC org num) ∧ W.rangeAt (w.heap.size + 1) 0 (msgC m) ∧ W.cell? ⟨w.heap.size + 1, 8, none⟩ = some (.int .u64 m.gas))) (by kernel_rfl) (⟨HBX3.out.env.range, HBX3.out.msg.range, HBX3.out.msg.cell (j := 8) rfl⟩) (fun hHeld => ?_)
  refine hT 0 ?_
  refine hU 1 ?_ (hy := fun w0 hSw => run_env hSw.1 rfl rfl)
  refine hU 2 ?_ (hy := fun w0 hSw => run_msg hSw.2.1 rfl rfl)
  refine hT 3 ?_
  refine hT 4 ?_
  refine hT 6 ?_
  refine hD 7 ?_
  refine wpAnyH_ready (rs := [5]) (by kernel_rfl) (by simp) ?_
  refine AllReadyH.cons rfl (fun K hK => ?_) AllReadyH.nil
  go_simp
  go_at_call 79
  refine (HJU.out _).mono ?_
  rintro e w4 ⟨⟨tos, rfl, hto⟩, hb4⟩
  have HBX4 := Lib.hid (HBX3.out.after ((Below.refl _ w3).drew.trans hb4))
  have HS4 := Lib.hid (HS3.out.after ((Below.refl _ w3).drew.trans hb4))
  obtain ⟨tp, tn, tc, rfl⟩ := hto.form
  have HTO := Lib.hid hto
  clear hb4 hto
  refine hK.out _ _ (⟨HBX4.out.env.range, HBX4.out.msg.range, HBX4.out.msg.cell (j := 8) rfl⟩) (fun hHeld => ?_)
  clear hK K
  try simp only [Act.put, zq]
  refine hT 8 ?_
  refine wpAnyH_ready (rs := [9]) (by kernel_rfl) (by simp) ?_
  refine AllReadyH.cons rfl (fun K hK => ?_) AllReadyH.nil
  go_simp
  have hnew := HasCells.new w4 (cellsF (frame0 (.pointer (some ⟨B + 6, 0, none⟩)) org num m c (.slice tp tn tc))) 150
  obtain ⟨w5, hw5⟩ : ∃ W, w4.alloc (.cells (cellsF (frame0 (.pointer (some ⟨B + 6, 0, none⟩)) org num m c (.slice tp tn tc))).toArray 150) = W := ⟨_, rfl⟩
  rw [hw5] at hnew
  change K _ (w4.alloc (.cells (cellsF (frame0 (.pointer (some ⟨B + 6, 0, none⟩)) org num m c (.slice tp tn tc))).toArray 150))
  rw [hw5]
  have hb5 : Below w4.heap.size w4 w5 := by rw [← hw5]; exact (Below.refl _ _).alloc (Nat.le_refl _) _
  have HBX5 := Lib.hid (HBX4.out.after hb5)
  have HS5 := Lib.hid (HS4.out.after hb5)
  have HF5 := Lib.hid (show Fra w4.heap.size w5 (frame0 (.pointer (some ⟨B + 6, 0, none⟩)) org num m c (.slice tp tn tc)) from ⟨hnew, OwnW.nil _ _⟩)
  have HTO5 := Lib.hid (HTO.out.below hb5)
  clear hnew hw5 hb5
  refine hK.out _ _ (⟨HBX5.out.env.range, HBX5.out.msg.range, HBX5.out.msg.cell (j := 8) rfl⟩) (fun hHeld => ?_)
  clear hK K
  try simp only [Act.put, zq]
  refine hT 10 ?_
  refine wpAnyH_done (by kernel_rfl) ?_ 0
  go_wp2_with fail
  refine wp_label ?_
  go_wp2_with fail
  go_loopg [] n (fun gg wr => ∃ f, Aside (RunTo w4.heap.size (fun W' f' => Below w4.heap.size w5 W' ∧ R W' f') gg wr f) ∧ Aside (Fra w4.heap.size wr f))
  case atStart => exact ⟨_, HRR.out w4.heap.size _ w5 HS5.out HBX5.out.below HBX4.out.below.size HTO5.out HF5.out, HF5.out⟩
  case round =>
    obtain ⟨f, hrt, hfr⟩ := hrel
    cases gk with
    | zero => exact hrt.elim
    | succ k =>
      have HRT := Lib.hid hrt
      clear hrt hfr
      go_wp2_with fail
      refine (show Calls _ _ _ _ _ from HRT.out).mono ?_
      rintro e w6 ⟨⟨v6, rfl⟩, f', hf', h6⟩
      have y1 := hf'.at 25 rfl
      have HF6 := Lib.hid hf'
      rcases h6 with ⟨he, hb6, hr6⟩ | ⟨he, hr6⟩
      · rw [he] at y1
        have y2 := hf'.at 23 rfl
        have HR6 := Lib.hid hr6
        have HBX6 := Lib.hid (show BoxAt w org num m w6 from ⟨HBX5.out.env.below hb6 (by have := HBX4.out.size; omega), HBX5.out.msg.below hb6 (by have := HBX4.out.size; omega), HBX5.out.don.below hb6 (by have := HBX4.out.size; omega), Nat.le_trans HBX5.out.size hb6.size, HBX5.out.below.trans (hb6.mono (by have := HBX4.out.size; omega))⟩)
        clear hf' hr6 he hb6
        by_cases h2 : f'.how = 2
        · rw [h2] at y2
          have HD := Lib.hid (show doneV f' = doneC 2 [] 0 from by unfold doneV; rw [h2]; rfl)
          clear h2
          go_wp2_with ((with_reducible refine store_gateK 28 ?_); refine wpList_store_mid rfl 28 _ _ rfl (w.heap.size + 2) 0 #[.int .i64 2, .string ⟨#[]⟩, .int .u64 0] rfl rfl (HBX6.out.don.there 0 _ (Nat.le_refl _)) infoDone (three_one _ _ _) ?_)
          dsimp only [Exit.noGoto]
          have hf := HBX6.out.don.whole (vs := doneC 2 [] 0) rfl
          refine bodyPost_ret (results_cells rfl _ _ (w.heap.size + 2) (doneC 2 [] 0) _ (by rfl) hf.range Tryz.underlying28 rfl infoDone) rfl ⟨w6, f', HR6.out, by rw [HD.out], below_sets (by omega) _ _ _ HBX6.out.below⟩
        · have n2 : ¬ ((f'.how : Int) = 2) := by omega
          by_cases h3 : f'.how = 3
          · rw [h3] at y2
            have HD := Lib.hid (show doneV f' = doneC 3 [] 0 from by unfold doneV; rw [h3]; rfl)
            clear h2 h3 n2
            go_wp2_with ((with_reducible refine store_gateK 28 ?_); refine wpList_store_mid rfl 28 _ _ rfl (w.heap.size + 2) 0 #[.int .i64 3, .string ⟨#[]⟩, .int .u64 0] rfl rfl (HBX6.out.don.there 0 _ (Nat.le_refl _)) infoDone (three_one _ _ _) ?_)
            dsimp only [Exit.noGoto]
            have hf := HBX6.out.don.whole (vs := doneC 3 [] 0) rfl
            refine bodyPost_ret (results_cells rfl _ _ (w.heap.size + 2) (doneC 3 [] 0) _ (by rfl) hf.range Tryz.underlying28 rfl infoDone) rfl ⟨w6, f', HR6.out, by rw [HD.out], below_sets (by omega) _ _ _ HBX6.out.below⟩
          · have n3 : ¬ ((f'.how : Int) = 3) := by omega
            have HD := Lib.hid (show doneV f' = doneC f'.how f'.out f'.gas from by unfold doneV; rw [if_neg (by omega)])
            obtain ⟨hw, hhw⟩ : ∃ h, f'.how = h := ⟨_, rfl⟩
            have HHW := Lib.hid hhw
            rw [hhw] at y2 n2 n3 HD
            have HC6 := Lib.hid (And.intro y2 (And.intro (HF6.out.at 24 rfl) (HF6.out.at 20 rfl)))
            have b2 : ((hw : Int) == 2) = false := beq_eq_false_iff_ne.2 n2
            have b3 : ((hw : Int) == 3) = false := beq_eq_false_iff_ne.2 n3
            clear hhw h2 h3
            go_wp2_with fail
            refine wp_region_held_drew (S := (fun W => W.cell? ⟨w4.heap.size, 23, none⟩ = some (.int .i64 hw) ∧ W.cell? ⟨w4.heap.size, 24, none⟩ = some (.string ⟨f'.out.toArray⟩) ∧ W.cell? ⟨w4.heap.size, 20, none⟩ = some (.int .u64 f'.gas))) (by kernel_rfl) (HC6.out) (fun hHeld => ?_)
            refine hT 0 ?_
            refine hT 1 ?_
            refine hT 2 ?_
            refine hD 3 ?_
            refine hT 4 ?_
            refine hT 5 ?_
            refine hT 6 ?_
            refine hD 7 ?_
            refine hT 8 ?_
            refine hT 9 ?_
            refine hT 10 ?_
            refine hD 11 ?_
            refine hT 12 ?_
            refine wpAnyH_ready (rs := [13]) (by kernel_rfl) (by simp) ?_
            refine AllReadyH.cons rfl (fun K hK => ?_) AllReadyH.nil
            refine step_storeK (by rfl) 28 _ _ rfl (w.heap.size + 2) 0 #[.int .i64 hw, .string ⟨f'.out.toArray⟩, .int .u64 f'.gas] rfl rfl (HBX6.out.don.there 0 _ (Nat.le_refl _)) infoDone (three_one _ _ _) ?_
            have hst : ∀ q, q ≠ w.heap.size + 2 → ((w6.drew).setCells (w.heap.size + 2) 0 [.int .i64 hw, .string ⟨f'.out.toArray⟩, .int .u64 f'.gas]).heap[q]? = w6.heap[q]? := fun q hq => setCells_other hq _ _ _
            have hb14 : ∀ j, ((w6.drew).setCells (w.heap.size + 2) 0 [.int .i64 hw, .string ⟨f'.out.toArray⟩, .int .u64 f'.gas]).cell? ⟨w4.heap.size, j, none⟩ = w6.cell? ⟨w4.heap.size, j, none⟩ := fun j => World.cell?_of_block (hst _ (by have := HBX4.out.size; simp only; omega))
            refine hK.out _ _ (⟨(hb14 23).trans HC6.out.1, (hb14 24).trans HC6.out.2.1, (hb14 20).trans HC6.out.2.2⟩) (fun hHeld => ?_)
            clear hK K
            try simp only [Act.put, zq]
            clear hHeld hst hb14
            refine wpAnyH_done (by kernel_rfl) ?_ 0
            go_wp2
            dsimp only [Exit.noGoto]
            have hf := HBX6.out.don.whole (vs := doneC hw f'.out f'.gas) rfl
            refine bodyPost_ret (results_cells rfl _ _ (w.heap.size + 2) (doneC hw f'.out f'.gas) _ (by rfl) hf.range Tryz.underlying28 rfl infoDone) rfl ⟨w6, f', HR6.out, by rw [HD.out], below_sets (by omega) _ _ _ HBX6.out.below.drew⟩
      · rw [he] at y1
        have HR6 := Lib.hid hr6
        clear hf' hr6 he
        go_wp2_with fail
        go_roundg k
        case measure => omega
        case rel => exact ⟨f', HR6.out, HF6.out⟩
end Go.Proofs.YtlelgbmbmajfmaaGreatDoor

namespace Go.Proofs.YtlelgbmbmajfmaaGreatDoor
open Go.RowKit Go.Shelf Go.Lib
attribute [local go_sem] Oper.semAt_some
theorem neq_words (a b : Nat) (ha : a < 256 ^ 32) (hb : b < 256 ^ 32) (W : World) : (binOp .neq 24 (.agg #[.int .u64 (limb a 0), .int .u64 (limb a 1), .int .u64 (limb a 2), .int .u64 (limb a 3)]) (.agg #[.int .u64 (limb b 0), .int .u64 (limb b 1), .int .u64 (limb b 2), .int .u64 (limb b 3)])).run Tryz.prog W = .ok (.bool (!decide (a = b))) W := by
  have h := eq_wordV ha hb W
  show ((do let r ← Op.equalIn 10000 24 (.agg #[.int .u64 (limb a 0), .int .u64 (limb a 1), .int .u64 (limb a 2), .int .u64 (limb a 3)]) (.agg #[.int .u64 (limb b 0), .int .u64 (limb b 1), .int .u64 (limb b 2), .int .u64 (limb b 3)]); pure (.bool !r)) : Sem Value).run Tryz.prog W = _
  unfold wordV at h
  simp only [Sem.run_bind, h, Result.andThen]
  rfl
set_option maxRecDepth 100000 in
set_option maxHeartbeats 6400000 in
theorem call_code (B : Nat) (S : StE) (org : ByteArray) (num : Nat) (m : MsgE) (w : World) (hs : StAt B w S) (hK : KecT w) (hu : S.undo = .slice none 0 0) (hz : m.depth ≤ 64) (hv : m.value = 0) (how : Nat) (out : List UInt8) (left : Nat)
    (HD : ∀ W, StAt B W S → KecT W → Calls Tryz.prog 59 #[.pointer (some ⟨B + 6, 0, none⟩), .agg #[.string org, .int .u64 num], .agg #[.string m.src, .string m.dst, .string m.who, .int .u64 (limb m.value 0), .int .u64 (limb m.value 1), .int .u64 (limb m.value 2), .int .u64 (limb m.value 3), .string ⟨m.data.toArray⟩, .int .u64 m.gas, .bool m.still, .int .i64 m.depth, .bool m.stays]] W fun e w' => e = .returned (.agg #[.int .i64 how, .string ⟨out.toArray⟩, .int .u64 left]) ∧ Below W.heap.size W w') :
    Calls Tryz.prog 32 #[.pointer (some ⟨B + 6, 0, none⟩), .agg #[.string org, .int .u64 num], .agg #[.string m.src, .string m.dst, .string m.who, .int .u64 (limb m.value 0), .int .u64 (limb m.value 1), .int .u64 (limb m.value 2), .int .u64 (limb m.value 3), .string ⟨m.data.toArray⟩, .int .u64 m.gas, .bool m.still, .int .i64 m.depth, .bool m.stays]] w fun e w' => e = .returned (.agg #[.int .i64 how, .string ⟨out.toArray⟩, .int .u64 left]) ∧ Below w.heap.size w w' := by
  have hbx := box_at w org num m
  obtain ⟨w1, hw1⟩ : ∃ W, boxW w org num m = W := ⟨_, rfl⟩
  rw [hw1] at hbx
  have HS1 := Lib.hid (hs.after hbx.below)
  have HK1 := Lib.hid (hK.below hbx.below)
  have c10 := hbx.msg.cell (j := 10) rfl
  have v0 : w1.cell? ⟨w.heap.size + 1, 3, none⟩ = some (.int .u64 0) := (hbx.msg.cell (j := 3) rfl).trans (by rw [hv, limb_nought]; rfl)
  have v1 : w1.cell? ⟨w.heap.size + 1, 4, none⟩ = some (.int .u64 0) := (hbx.msg.cell (j := 4) rfl).trans (by rw [hv, limb_nought]; rfl)
  have v2 : w1.cell? ⟨w.heap.size + 1, 5, none⟩ = some (.int .u64 0) := (hbx.msg.cell (j := 5) rfl).trans (by rw [hv, limb_nought]; rfl)
  have v3 : w1.cell? ⟨w.heap.size + 1, 6, none⟩ = some (.int .u64 0) := (hbx.msg.cell (j := 6) rfl).trans (by rw [hv, limb_nought]; rfl)
  have hne : ∀ W, (binOp .neq 24 (.agg #[.int .u64 0, .int .u64 0, .int .u64 0, .int .u64 0]) (.agg #[.int .u64 0, .int .u64 0, .int .u64 0, .int .u64 0])).run Tryz.prog W = .ok (.bool false) W := fun W => by
    have h := neq_words 0 0 (by decide) (by decide) W
    simp only [limb_nought] at h
    exact h
  have HBX := Lib.hid hbx
  have HW1 := Lib.hid hw1
  have HDD := Lib.hid HD
  have k1 : ¬ ((m.depth : Int) < 0) := by omega
  have k2 : ¬ ((64 : Int) < m.depth) := by omega
  have HU := Lib.hid hu
  have HMK := Lib.hid (fun W (h : StAt B W S) => mark_any B S 0 W h none 0 hu)
  clear hbx hw1 hs hK HD hu hz hv
  unfold boxW at HW1
  go_enter Tryz.func32, Tryz.ntmps32
  go_wp2_with (rw [HW1.out])
  refine (HMK.out _ HS1.out).mono ?_
  rintro e w2 ⟨rfl, rfl⟩
  go_wp2_with (first | ((with_reducible refine load_gateK 43 ?_); refine wpList_load_midK rfl 43 _ rfl (w.heap.size + 1) 0 rfl (msgC m) _ HBX.out.msg.range Tryz.underlying43 rfl infoMsg ?_) | ((with_reducible refine load_gateK 41 ?_); refine wpList_load_midK rfl 41 _ rfl w.heap.size 0 rfl (envC org num) _ HBX.out.env.range Tryz.underlying41 rfl infoEnv ?_))
  refine (HDD.out _ HS1.out HK1.out).mono ?_
  rintro e w3 ⟨rfl, hb3⟩
  have HX3 := Lib.hid (HBX.out.after hb3)
  have HS3 := Lib.hid (HS1.out.after hb3)
  have HZ3 := Lib.hid (HasCells.new w3 [.int .i64 0, .string ⟨#[]⟩, .int .u64 0] 28)
  obtain ⟨w4, hw4⟩ : ∃ W, (w3.alloc (.cells #[.int .i64 0, .string ⟨#[]⟩, .int .u64 0] 28)).setCells w3.heap.size 0 [.int .i64 how, .string ⟨out.toArray⟩, .int .u64 left] = W := ⟨_, rfl⟩
  have HT4 := Lib.hid (show HasCells w4 w3.heap.size [.int .i64 how, .string ⟨out.toArray⟩, .int .u64 left] 28 from by rw [← hw4]; exact HZ3.out.whole rfl)
  have hb4 : Below w3.heap.size w3 w4 := by rw [← hw4]; exact below_sets (Nat.le_refl _) _ _ _ ((Below.refl _ _).alloc (Nat.le_refl _) _)
  have HX4 := Lib.hid (HX3.out.after hb4)
  have HS4 := Lib.hid (HS3.out.after hb4)
  have HW4 := Lib.hid hw4
  clear hb3 hb4 hw4 v0 v1 v2 v3 c10
  have c0 := HT4.out.cell (j := 0) rfl
  by_cases h0 : how = 0
  · have h2 : ((how : Int) == 0) = true := by rw [h0]; rfl
    clear h0
    go_wp2_with (first | ((with_reducible refine store_gateK 28 ?_); refine wpList_store_mid rfl 28 _ _ rfl w3.heap.size 0 #[.int .i64 how, .string ⟨out.toArray⟩, .int .u64 left] rfl rfl (HZ3.out.there 0 _ (Nat.le_refl _)) infoDone (three_one _ _ _) ?_; rw [show ((#[.int .i64 how, .string ⟨out.toArray⟩, .int .u64 left] : Array Value)).toList = [.int .i64 how, .string ⟨out.toArray⟩, .int .u64 left] from rfl, HW4.out]) | ((with_reducible refine load_gateK 28 ?_); refine wpList_load_midK rfl 28 _ rfl w3.heap.size 0 rfl [.int .i64 how, .string ⟨out.toArray⟩, .int .u64 left] _ HT4.out.range Tryz.underlying28 rfl infoDone ?_) | ((with_reducible refine store_gateK 28 ?_); refine wpList_store_mid rfl 28 _ _ rfl (w.heap.size + 2) 0 #[.int .i64 how, .string ⟨out.toArray⟩, .int .u64 left] rfl rfl (HX4.out.don.there 0 _ (Nat.le_refl _)) infoDone (three_one _ _ _) ?_))
    have hf := HX4.out.don.whole (vs := [.int .i64 how, .string ⟨out.toArray⟩, .int .u64 left]) rfl
    refine bodyPost_ret (results_cells rfl _ _ (w.heap.size + 2) [.int .i64 how, .string ⟨out.toArray⟩, .int .u64 left] _ (by rfl) hf.range Tryz.underlying28 rfl infoDone) rfl ⟨rfl, below_sets (by omega) _ _ _ HX4.out.below⟩
  · have h1 : ¬ ((how : Int) = 0) := by omega
    have h2 : ((how : Int) == 0) = false := beq_eq_false_iff_ne.2 h1
    go_wp2_with ((with_reducible refine store_gateK 28 ?_); refine wpList_store_mid rfl 28 _ _ rfl w3.heap.size 0 #[.int .i64 how, .string ⟨out.toArray⟩, .int .u64 left] rfl rfl (HZ3.out.there 0 _ (Nat.le_refl _)) infoDone (three_one _ _ _) ?_; rw [show ((#[.int .i64 how, .string ⟨out.toArray⟩, .int .u64 left] : Array Value)).toList = [.int .i64 how, .string ⟨out.toArray⟩, .int .u64 left] from rfl, HW4.out])
    refine (back_none B S w4 HS4.out HU.out).mono ?_
    rintro e w5 ⟨rfl, hb5⟩
    have HX5 := Lib.hid (HX4.out.after hb5)
    have HT5 := Lib.hid (HT4.out.after hb5)
    clear hb5 c0
    go_wp2_with (first | ((with_reducible refine load_gateK 28 ?_); refine wpList_load_midK rfl 28 _ rfl w3.heap.size 0 rfl [.int .i64 how, .string ⟨out.toArray⟩, .int .u64 left] _ HT5.out.range Tryz.underlying28 rfl infoDone ?_) | ((with_reducible refine store_gateK 28 ?_); refine wpList_store_mid rfl 28 _ _ rfl (w.heap.size + 2) 0 #[.int .i64 how, .string ⟨out.toArray⟩, .int .u64 left] rfl rfl (HX5.out.don.there 0 _ (Nat.le_refl _)) infoDone (three_one _ _ _) ?_))
    have hf := HX5.out.don.whole (vs := [.int .i64 how, .string ⟨out.toArray⟩, .int .u64 left]) rfl
    refine bodyPost_ret (results_cells rfl _ _ (w.heap.size + 2) [.int .i64 how, .string ⟨out.toArray⟩, .int .u64 left] _ (by rfl) hf.range Tryz.underlying28 rfl infoDone) rfl ⟨rfl, below_sets (by omega) _ _ _ HX5.out.below⟩
end Go.Proofs.YtlelgbmbmajfmaaGreatDoor

namespace Go.Proofs.YtlelgbmbmajfmaaGreatDoor
open Go.RowKit Go.Shelf Go.Lib
attribute [local go_sem] Oper.semAt_some
theorem make_gate {P : Program} {ops : Array Oper} {Q : Exit → Act → World → Prop} {rest : List Oper} {a : Act} {w : World} {d : Option Tmp} {x y : Operand} {ty : TypeId} {pos : String} {af : Array Edge} {g : Option (Nat × Bool)} (T : TypeId)
    (h : wpList P ops Q (Oper.mk d (Op.makeSlice T x y) ty pos af g :: rest) a w) : wpList P ops Q (Oper.mk d (Op.makeSlice T x y) ty pos af g :: rest) a w := h
def zero32 : ByteArray := ⟨(List.replicate 32 0).toArray⟩
def acctK (a c : ByteArray) : KnE := ⟨a, true, 0, 0, kecB [128], zero32, true, c, .slice none 0 0⟩
theorem k12_one (a h c : ByteArray) : (#[.string a, .bool true, .int .u64 (0 : Nat), .int .u64 (limb 0 0), .int .u64 (limb 0 1), .int .u64 (limb 0 2), .int .u64 (limb 0 3), .string (kecB [128]), .string h, .bool true, .string c, .slice none 0 0] : Array Value).all (·.oneCell') = true := by simp [Value.oneCell']
set_option maxRecDepth 100000 in
set_option maxHeartbeats 6400000 in
theorem account_any (a c : ByteArray) (w : World) : Calls Tryz.prog 34 #[.string a, .string c] w fun e w' => e = .returned (.agg (kcells (acctK a c)).toArray) ∧ Below w.heap.size w w' := by
  obtain ⟨h, hh⟩ : ∃ h, kecB [] = h := ⟨_, rfl⟩
  have HEM := Lib.hid (fun W => emptyRef_any W)
  unfold acctV at HEM
  rw [hh] at HEM
  obtain ⟨Z, hZ⟩ : ∃ Z, (⟨(List.replicate 32 0).toArray⟩ : ByteArray) = Z := ⟨_, rfl⟩
  have HZV := Lib.hid hZ
  clear hZ
  have HZ1 := Lib.hid (HasCells.new w [.string ⟨#[]⟩, .bool false, .int .u64 0, .int .u64 0, .int .u64 0, .int .u64 0, .int .u64 0, .string ⟨#[]⟩, .string ⟨#[]⟩, .bool false, .string ⟨#[]⟩, .slice none 0 0] 52)
  obtain ⟨w1, hw1⟩ : ∃ W, w.alloc (.cells #[.string ⟨#[]⟩, .bool false, .int .u64 0, .int .u64 0, .int .u64 0, .int .u64 0, .int .u64 0, .string ⟨#[]⟩, .string ⟨#[]⟩, .bool false, .string ⟨#[]⟩, .slice none 0 0] 52) = W := ⟨_, rfl⟩
  rw [show w.alloc (.cells ([.string ⟨#[]⟩, .bool false, .int .u64 0, .int .u64 0, .int .u64 0, .int .u64 0, .int .u64 0, .string ⟨#[]⟩, .string ⟨#[]⟩, .bool false, .string ⟨#[]⟩, .slice none 0 0] : List Value).toArray 52) = w1 from hw1] at HZ1
  have HB1 := Lib.hid (show Below w.heap.size w w1 from by rw [← hw1]; exact (Below.refl _ _).alloc (Nat.le_refl _) _)
  have HW1 := Lib.hid hw1
  clear hw1
  go_enter Tryz.func34, Tryz.ntmps34
  go_wp2_with (rw [HW1.out])
  refine (HEM.out _).mono ?_
  rintro e w2 ⟨rfl, hb2⟩
  have HB2 := Lib.hid (HB1.out.trans (hb2.mono HB1.out.size))
  have HZ2 := Lib.hid (HZ1.out.after hb2)
  have HN2 := Lib.hid (HasCells.new w2 [.string ⟨#[]⟩, .bool false, .int .u64 0, .int .u64 0, .int .u64 0, .int .u64 0, .int .u64 0, .string ⟨#[]⟩, .string ⟨#[]⟩, .bool false, .string ⟨#[]⟩, .slice none 0 0] 52)
  obtain ⟨w3, hw3⟩ : ∃ W, (w2.alloc (.cells #[.string ⟨#[]⟩, .bool false, .int .u64 0, .int .u64 0, .int .u64 0, .int .u64 0, .int .u64 0, .string ⟨#[]⟩, .string ⟨#[]⟩, .bool false, .string ⟨#[]⟩, .slice none 0 0] 52)).setCells w2.heap.size 0 [.string a, .bool true, .int .u64 (0 : Nat), .int .u64 (limb 0 0), .int .u64 (limb 0 1), .int .u64 (limb 0 2), .int .u64 (limb 0 3), .string (kecB [128]), .string h, .bool true, .string c, .slice none 0 0] = W := ⟨_, rfl⟩
  have HT3 := Lib.hid (show HasCells w3 w2.heap.size [.string a, .bool true, .int .u64 (0 : Nat), .int .u64 (limb 0 0), .int .u64 (limb 0 1), .int .u64 (limb 0 2), .int .u64 (limb 0 3), .string (kecB [128]), .string h, .bool true, .string c, .slice none 0 0] 52 from by rw [← hw3]; exact HN2.out.whole rfl)
  have hb3 : Below w2.heap.size w2 w3 := by rw [← hw3]; exact below_sets (Nat.le_refl _) _ _ _ ((Below.refl _ _).alloc (Nat.le_refl _) _)
  have HB3 := Lib.hid (HB2.out.trans (hb3.mono HB2.out.size))
  have HZ3 := Lib.hid (HZ2.out.after hb3)
  have HW3 := Lib.hid hw3
  clear hb2 hb3 hw3
  go_wp2_with (first | ((with_reducible refine store_gateK 52 ?_); refine wpList_store_mid rfl 52 _ _ rfl w2.heap.size 0 #[.string a, .bool true, .int .u64 (0 : Nat), .int .u64 (limb 0 0), .int .u64 (limb 0 1), .int .u64 (limb 0 2), .int .u64 (limb 0 3), .string (kecB [128]), .string h, .bool true, .string c, .slice none 0 0] rfl rfl (HN2.out.there 0 _ (Nat.le_refl _)) infoKn (k12_one _ _ _) ?_; rw [show ((#[.string a, .bool true, .int .u64 (0 : Nat), .int .u64 (limb 0 0), .int .u64 (limb 0 1), .int .u64 (limb 0 2), .int .u64 (limb 0 3), .string (kecB [128]), .string h, .bool true, .string c, .slice none 0 0] : Array Value)).toList = [.string a, .bool true, .int .u64 (0 : Nat), .int .u64 (limb 0 0), .int .u64 (limb 0 1), .int .u64 (limb 0 2), .int .u64 (limb 0 3), .string (kecB [128]), .string h, .bool true, .string c, .slice none 0 0] from rfl, HW3.out]) | ((with_reducible refine make_gate 55 ?_); refine wpList_makeB rfl _ _ 55 rfl w3.heap.size 5 Tryz.underlying55 infoByteK 32 32 32 rfl rfl rfl rfl (by decide) (Nat.le_refl _) ?_; intro w4 ho4 hg4; have hst4 := ho4.str (src := 55) (dst := 9) Tryz.underlying55 Tryz.underlying5 Tryz.underlying9; have hb4 : Below w3.heap.size w3 w4 := ⟨hg4.os, hg4.tape, hg4.output, hg4.size, fun k hk => hg4.block k hk (fun e => by cases e)⟩; have HB4 := Lib.hid (HB3.out.trans (hb4.mono HB3.out.size)); have HT4 := Lib.hid (HT3.out.after hb4); have HZ4 := Lib.hid (HZ3.out.after hb4); have c8 := HT4.out.cell (j := 8) rfl; have i8 := HT4.out.frozen 8; rw [HZV.out] at hst4; obtain ⟨w5, hw5⟩ : ∃ W, w4.setCell ⟨w2.heap.size, 8, none⟩ (.string Z) = W := ⟨_, rfl⟩; have HT5 := Lib.hid (show HasCells w5 w2.heap.size [.string a, .bool true, .int .u64 (0 : Nat), .int .u64 (limb 0 0), .int .u64 (limb 0 1), .int .u64 (limb 0 2), .int .u64 (limb 0 3), .string (kecB [128]), .string Z, .bool true, .string c, .slice none 0 0] 52 from by rw [← hw5]; exact HT4.out.set 8 _); have hb5 : Below w2.heap.size w4 w5 := (by rw [← hw5]; exact cellSet (Below.refl _ _) (Nat.le_refl _) 8 _); have HB5 := Lib.hid (HB4.out.trans (hb5.mono HB2.out.size)); have HZ5 := Lib.hid (HZ4.out.below hb5 HZ2.out.lt); have HW5 := Lib.hid hw5; clear ho4 hg4 hb4 hw5 hb5) | rw [HW5.out] | ((with_reducible refine load_gateK 52 ?_); refine wpList_load_midK rfl 52 _ rfl w2.heap.size 0 rfl [.string a, .bool true, .int .u64 (0 : Nat), .int .u64 (limb 0 0), .int .u64 (limb 0 1), .int .u64 (limb 0 2), .int .u64 (limb 0 3), .string (kecB [128]), .string Z, .bool true, .string c, .slice none 0 0] _ HT5.out.range Tryz.underlying52 rfl infoKn ?_) | ((with_reducible refine store_gateK 52 ?_); refine wpList_store_mid rfl 52 _ _ rfl w.heap.size 0 #[.string a, .bool true, .int .u64 (0 : Nat), .int .u64 (limb 0 0), .int .u64 (limb 0 1), .int .u64 (limb 0 2), .int .u64 (limb 0 3), .string (kecB [128]), .string Z, .bool true, .string c, .slice none 0 0] rfl rfl (HZ5.out.there 0 _ (Nat.le_refl _)) infoKn (k12_one _ _ _) ?_))
  have hf := HZ5.out.whole (vs := [.string a, .bool true, .int .u64 (0 : Nat), .int .u64 (limb 0 0), .int .u64 (limb 0 1), .int .u64 (limb 0 2), .int .u64 (limb 0 3), .string (kecB [128]), .string Z, .bool true, .string c, .slice none 0 0]) rfl
  refine bodyPost_ret (results_cells rfl _ _ w.heap.size [.string a, .bool true, .int .u64 (0 : Nat), .int .u64 (limb 0 0), .int .u64 (limb 0 1), .int .u64 (limb 0 2), .int .u64 (limb 0 3), .string (kecB [128]), .string Z, .bool true, .string c, .slice none 0 0] _ (by rfl) hf.range Tryz.underlying52 rfl infoKn) rfl ⟨by rw [← HZV.out]; rfl, below_sets (Nat.le_refl _) _ _ _ HB5.out⟩
end Go.Proofs.YtlelgbmbmajfmaaGreatDoor

namespace Go.Proofs.YtlelgbmbmajfmaaGreatDoor
open Go.RowKit Go.Shelf Go.Lib
/-- a frame at a place, with so much gas, stack, memory -/
def mkF (g : FrE) (gas pc : Nat) (st : List Nat) (mem : List UInt8) : FrE := { g with gas := gas, pc := pc, next := pc, stkL := st, mem := mem }
def canB (g : FrE) (op : UInt8) (tk pt c : Nat) : Bool := (opE g.code g.pc == op) && (infoE op == (tk, pt, c, true)) && decide (tk ≤ g.stkL.length) && decide (g.stkL.length - tk + pt ≤ 1024) && decide (c ≤ g.gas) && decide (g.gas < 18446744073709551616) && decide (g.code.length ≤ 1099511627776) && decide (g.pc ≤ 1099511627776)
theorem can_of {g : FrE} {op : UInt8} {tk pt c : Nat} (h : canB g op tk pt c = true) : Can g op tk pt c := by
  unfold canB at h
  simp only [Bool.and_eq_true, beq_iff_eq, decide_eq_true_eq] at h
  obtain ⟨⟨⟨⟨⟨⟨⟨h1, h2⟩, h3⟩, h4⟩, h5⟩, h6⟩, h7⟩, h8⟩ := h
  exact ⟨h1, h2, h3, h4, h5, h6, h7, h8⟩
def codeA : List UInt8 := [0x60, 0x02, 0x60, 0x03, 0x01, 0x5f, 0x52, 0x60, 0x20, 0x5f, 0xf3]
def codeB : List UInt8 := [0x5b, 0x5f, 0x56]
def msgA : MsgE := ⟨⟨#[]⟩, ⟨#[97]⟩, ⟨#[97]⟩, 0, [], 100, false, 0, false⟩
def msgB : MsgE := ⟨⟨#[]⟩, ⟨#[98]⟩, ⟨#[98]⟩, 0, [], 1000, false, 0, false⟩
def msgC0 : MsgE := ⟨⟨#[]⟩, ⟨#[99]⟩, ⟨#[99]⟩, 0, [], 1000, false, 0, false⟩
/-- code a: two and three -/
theorem run_a (p : Nat) (s tos : Value) (W : World) (h : Fra p W (frame0 s ⟨#[]⟩ 0 msgA codeA tos)) : RunTo p (fun W' f' => Below p W W' ∧ doneV f' = doneC 0 (be 32 5) 78) 8 W (frame0 s ⟨#[]⟩ 0 msgA codeA tos) := by
  obtain ⟨G, hG⟩ : ∃ G, nf (frame0 s ⟨#[]⟩ 0 msgA codeA tos) = G := ⟨_, rfl⟩
  have e0 : nf (frame0 s ⟨#[]⟩ 0 msgA codeA tos) = mkF (nf (frame0 s ⟨#[]⟩ 0 msgA codeA tos)) 100 0 [] [] := rfl
  have e1 : pushN (mkF (nf (frame0 s ⟨#[]⟩ 0 msgA codeA tos)) 100 0 [] []) 3 = mkF (nf (frame0 s ⟨#[]⟩ 0 msgA codeA tos)) 97 2 [2] [] := by kernel_rfl
  have e2 : pushN (mkF (nf (frame0 s ⟨#[]⟩ 0 msgA codeA tos)) 97 2 [2] []) 3 = mkF (nf (frame0 s ⟨#[]⟩ 0 msgA codeA tos)) 94 4 [2, 3] [] := by kernel_rfl
  have e3 : addN (mkF (nf (frame0 s ⟨#[]⟩ 0 msgA codeA tos)) 94 4 [2, 3] []) 3 = mkF (nf (frame0 s ⟨#[]⟩ 0 msgA codeA tos)) 91 5 [5] [] := by kernel_rfl
  have e4 : pushN (mkF (nf (frame0 s ⟨#[]⟩ 0 msgA codeA tos)) 91 5 [5] []) 2 = mkF (nf (frame0 s ⟨#[]⟩ 0 msgA codeA tos)) 89 6 [5, 0] [] := by kernel_rfl
  have e5 : mstoreN (mkF (nf (frame0 s ⟨#[]⟩ 0 msgA codeA tos)) 89 6 [5, 0] []) 3 = mkF (nf (frame0 s ⟨#[]⟩ 0 msgA codeA tos)) 83 7 [] (be 32 5) := by kernel_rfl
  have e6 : pushN (mkF (nf (frame0 s ⟨#[]⟩ 0 msgA codeA tos)) 83 7 [] (be 32 5)) 3 = mkF (nf (frame0 s ⟨#[]⟩ 0 msgA codeA tos)) 80 9 [32] (be 32 5) := by kernel_rfl
  have e7 : pushN (mkF (nf (frame0 s ⟨#[]⟩ 0 msgA codeA tos)) 80 9 [32] (be 32 5)) 2 = mkF (nf (frame0 s ⟨#[]⟩ 0 msgA codeA tos)) 78 10 [32, 0] (be 32 5) := by kernel_rfl
  have e8 : doneV (giveN (mkF (nf (frame0 s ⟨#[]⟩ 0 msgA codeA tos)) 78 10 [32, 0] (be 32 5)) 0) = doneC 0 (be 32 5) 78 := by kernel_rfl
  have e9 : (giveN (mkF (nf (frame0 s ⟨#[]⟩ 0 msgA codeA tos)) 78 10 [32, 0] (be 32 5)) 0).ended = true := by kernel_rfl
  have b1 : canB (mkF (nf (frame0 s ⟨#[]⟩ 0 msgA codeA tos)) 100 0 [] []) 0x60 0 1 3 = true := by kernel_rfl
  have b2 : canB (mkF (nf (frame0 s ⟨#[]⟩ 0 msgA codeA tos)) 97 2 [2] []) 0x60 0 1 3 = true := by kernel_rfl
  have b3 : canB (mkF (nf (frame0 s ⟨#[]⟩ 0 msgA codeA tos)) 94 4 [2, 3] []) 1 2 1 3 = true := by kernel_rfl
  have b4 : canB (mkF (nf (frame0 s ⟨#[]⟩ 0 msgA codeA tos)) 91 5 [5] []) 0x5f 0 1 2 = true := by kernel_rfl
  have b5 : canB (mkF (nf (frame0 s ⟨#[]⟩ 0 msgA codeA tos)) 89 6 [5, 0] []) 82 2 0 3 = true := by kernel_rfl
  have b6 : canB (mkF (nf (frame0 s ⟨#[]⟩ 0 msgA codeA tos)) 83 7 [] (be 32 5)) 0x60 0 1 3 = true := by kernel_rfl
  have b7 : canB (mkF (nf (frame0 s ⟨#[]⟩ 0 msgA codeA tos)) 80 9 [32] (be 32 5)) 0x5f 0 1 2 = true := by kernel_rfl
  have b8 : canB (mkF (nf (frame0 s ⟨#[]⟩ 0 msgA codeA tos)) 78 10 [32, 0] (be 32 5)) 243 2 0 0 = true := by kernel_rfl
  rw [hG] at e0 e1 e2 e3 e4 e5 e6 e7 e8 e9 b1 b2 b3 b4 b5 b6 b7 b8
  have hl : (be 32 5).length ≤ 131072 := by rw [be_length]; decide
  refine RunTo.next (go_push p _ _ W h (hG.trans e0) 0x60 3 (can_of b1) (by decide) (by decide) (by decide)) (by rw [e1, ← hG]; rfl) fun w1 f1 h1 k1 r1 => ?_
  refine RunTo.next (go_push p _ _ w1 r1 (h1.trans e1) 0x60 3 (can_of b2) (by decide) (by decide) (by decide)) (by rw [e2, ← hG]; rfl) fun w2 f2 h2 k2 r2 => ?_
  refine RunTo.next (go_add p _ _ w2 r2 (h2.trans e2) 3 (can_of b3)) (by rw [e3, ← hG]; rfl) fun w3 f3 h3 k3 r3 => ?_
  refine RunTo.next (go_push p _ _ w3 r3 (h3.trans e3) 0x5f 2 (can_of b4) (by decide) (by decide) (by decide)) (by rw [e4, ← hG]; rfl) fun w4 f4 h4 k4 r4 => ?_
  refine RunTo.next (go_mstore p _ _ w4 r4 (h4.trans e4) 3 (can_of b5) (Nat.zero_le _) (fun v hv => ?_)) (by rw [e5, ← hG]; rfl) fun w5 f5 h5 k5 r5 => ?_
  · simp only [mkF, List.mem_cons, List.not_mem_nil, or_false] at hv
    rcases hv with rfl | rfl <;> decide
  refine RunTo.next (go_push p _ _ w5 r5 (h5.trans e5) 0x60 3 (can_of b6) (by decide) (by decide) (by decide)) (by rw [e6, ← hG]; rfl) fun w6 f6 h6 k6 r6 => ?_
  refine RunTo.next (go_push p _ _ w6 r6 (h6.trans e6) 0x5f 2 (can_of b7) (by decide) (by decide) (by decide)) (by rw [e7, ← hG]; rfl) fun w7 f7 h7 k7 r7 => ?_
  refine RunTo.last (go_give p _ _ w7 r7 (h7.trans e7) 0 (can_of b8) hl (fun v hv => ?_)) e9 fun w8 f8 h8 k8 r8 => ?_
  · simp only [mkF, List.mem_cons, List.not_mem_nil, or_false] at hv
    rcases hv with rfl | rfl <;> decide
  refine ⟨k1.trans (k2.trans (k3.trans (k4.trans (k5.trans (k6.trans (k7.trans k8)))))), ?_⟩
  have hd : doneV f8 = doneV (nf f8) := rfl
  rw [hd, h8, e8]
/-- code b: a loop, round by round -/
theorem run_b (p : Nat) (s tos : Value) (W0 : World) : ∀ (j : Nat) (W : World) (f : FrE), j ≤ 90 → Below p W0 W → IntsAt W tos (jmpsC codeB) p → Fra p W f → nf f = mkF (nf (frame0 s ⟨#[]⟩ 0 msgB codeB tos)) (10 + 11 * j) 0 [] [] → RunTo p (fun W' f' => Below p W0 W' ∧ doneV f' = doneC 2 [] 0) (3 * j + 3) W f := by
  intro j
  induction j with
  | zero =>
    intro W f _ hb hto h hf
    refine RunTo.next (g := mkF (nf (frame0 s ⟨#[]⟩ 0 msgB codeB tos)) 9 1 [] []) (go_dest p f _ W h hf 1 (can_of (by kernel_rfl))) rfl fun w1 f1 h1 k1 r1 => ?_
    refine RunTo.next (g := mkF (nf (frame0 s ⟨#[]⟩ 0 msgB codeB tos)) 7 2 [0] []) (go_push p f1 _ w1 r1 h1 0x5f 2 (can_of (by kernel_rfl)) (by decide) (by decide) (by decide)) rfl fun w2 f2 h2 k2 r2 => ?_
    refine RunTo.last (g := failE (mkF (nf (frame0 s ⟨#[]⟩ 0 msgB codeB tos)) 7 2 [0] [])) (go_poor p f2 _ w2 r2 h2 0x56 1 0 8 (by kernel_rfl) (by kernel_rfl) (Nat.le_of_ble_eq_true (by kernel_rfl)) (Nat.le_of_ble_eq_true (by kernel_rfl)) (Nat.le_of_ble_eq_true (by kernel_rfl)) (Nat.le_of_ble_eq_true (by kernel_rfl)) (Nat.le_of_ble_eq_true (by kernel_rfl))) rfl fun w3 f3 h3 k3 r3 => ?_
    refine ⟨hb.trans (k1.trans (k2.trans k3)), ?_⟩
    have hd : doneV f3 = doneV (nf f3) := rfl
    rw [hd, h3]
    rfl
  | succ j ih =>
    intro W f hj hb hto h hf
    have q1 : 10 + 11 * (j + 1) = 11 * j + 21 := by omega
    rw [q1] at hf
    have hc1 : Can (mkF (nf (frame0 s ⟨#[]⟩ 0 msgB codeB tos)) (11 * j + 21) 0 [] []) 91 0 0 1 := ⟨by kernel_rfl, by kernel_rfl, Nat.le_refl _, Nat.zero_le _, by show 1 ≤ 11 * j + 21; omega, by show 11 * j + 21 < _; omega, Nat.le_of_ble_eq_true (by kernel_rfl), Nat.zero_le _⟩
    have hc2 : Can (mkF (nf (frame0 s ⟨#[]⟩ 0 msgB codeB tos)) (11 * j + 20) 1 [] []) 0x5f 0 1 2 := ⟨by kernel_rfl, by kernel_rfl, Nat.le_refl _, Nat.le_of_ble_eq_true (by kernel_rfl), by show 2 ≤ 11 * j + 20; omega, by show 11 * j + 20 < _; omega, Nat.le_of_ble_eq_true (by kernel_rfl), Nat.le_of_ble_eq_true (by kernel_rfl)⟩
    have hc3 : Can (mkF (nf (frame0 s ⟨#[]⟩ 0 msgB codeB tos)) (11 * j + 18) 2 [0] []) 86 1 0 8 := ⟨by kernel_rfl, by kernel_rfl, Nat.le_refl _, Nat.le_of_ble_eq_true (by kernel_rfl), by show 8 ≤ 11 * j + 18; omega, by show 11 * j + 18 < _; omega, Nat.le_of_ble_eq_true (by kernel_rfl), Nat.le_of_ble_eq_true (by kernel_rfl)⟩
    refine RunTo.next (g := mkF (nf (frame0 s ⟨#[]⟩ 0 msgB codeB tos)) (11 * j + 20) 1 [] []) (go_dest p f _ W h hf 1 hc1) rfl fun w1 f1 h1 k1 r1 => ?_
    refine RunTo.next (g := mkF (nf (frame0 s ⟨#[]⟩ 0 msgB codeB tos)) (11 * j + 18) 2 [0] []) (go_push p f1 _ w1 r1 h1 0x5f 2 hc2 (by decide) (by decide) (by decide)) rfl fun w2 f2 h2 k2 r2 => ?_
    have hto2 := (hto.below k1).below k2
    refine RunTo.next (g := mkF (nf (frame0 s ⟨#[]⟩ 0 msgB codeB tos)) (11 * j + 10) 0 [] []) (go_jump p f2 _ w2 r2 h2 8 0 0 (jmpsC codeB) hc3 rfl hto2 (jmpsC_rise _) (by kernel_rfl) (Nat.zero_le _) (Nat.le_of_ble_eq_true (by kernel_rfl))) rfl fun w3 f3 h3 k3 r3 => ?_
    exact ih w3 f3 (by omega) (hb.trans (k1.trans (k2.trans k3))) (hto2.below k3) r3 (by rw [h3, Nat.add_comm])
end Go.Proofs.YtlelgbmbmajfmaaGreatDoor

namespace Go.Proofs.YtlelgbmbmajfmaaGreatDoor
open Go.RowKit Go.Shelf Go.Lib
attribute [local go_sem] Oper.semAt_some
theorem zero32_ne : (zero32.toList == (kecB []).toList) = false := by
  rw [ByteArray.toList_eq, ByteArray.toList_eq]
  show (List.replicate 32 0 == keccakL []) = false
  rw [kecE]
  decide
def kA : KnE := acctK ⟨#[97]⟩ ⟨#[96, 2, 96, 3, 1, 95, 82, 96, 32, 95, 243]⟩
def kB : KnE := acctK ⟨#[98]⟩ ⟨#[91, 95, 86]⟩
def knL : List KnE := [kA, kB]
theorem acctK_ok (a c : ByteArray) : KnOk (acctK a c) := ⟨none, 0, 0, rfl⟩
theorem kn_a : (newS knL).kn ⟨#[97]⟩ = some kA := setF_same _ _ _
theorem kn_b : (newS knL).kn ⟨#[98]⟩ = some kB := by
  show setF (setF (fun _ => none) kB.addr kB) kA.addr kA (⟨#[98]⟩ : ByteArray) = _
  rw [setF_other _ _ (by decide)]
  exact setF_same _ _ _
theorem kn_c : (newS knL).kn ⟨#[99]⟩ = none := by
  show setF (setF (fun _ => none) kB.addr kB) kA.addr kA (⟨#[99]⟩ : ByteArray) = _
  rw [setF_other _ _ (by decide), setF_other _ _ (by decide)]
theorem code_of {S : StE} {a a2 c : ByteArray} (h : S.kn a = some (acctK a2 c)) : codeC S a = c ∧ codeN S a = 0 := by
  have hz : (!((acctK a2 c).hash.toList == (kecB []).toList)) = true := by rw [show (acctK a2 c).hash = zero32 from rfl, zero32_ne]; rfl
  unfold codeC codeN
  rw [h]
  dsimp only
  rw [hz]
  exact ⟨rfl, rfl⟩
theorem show_x (B : Nat) (w : World) (hs : StAt B w (newS knL)) (hK : KecT w) : Calls Tryz.prog 32 #[.pointer (some ⟨B + 6, 0, none⟩), .agg #[.string ⟨#[]⟩, .int .u64 0], .agg #[.string ⟨#[]⟩, .string ⟨#[97]⟩, .string ⟨#[97]⟩, .int .u64 0, .int .u64 0, .int .u64 0, .int .u64 0, .string ⟨#[]⟩, .int .u64 100, .bool false, .int .i64 0, .bool false]] w fun e w' => e = .returned (.agg #[.int .i64 0, .string ⟨(be 32 5).toArray⟩, .int .u64 78]) ∧ Below w.heap.size w w' := by
  refine call_code B (newS knL) ⟨#[]⟩ 0 msgA w hs hK rfl (by decide) rfl 0 (be 32 5) 78 (fun W hsW hkW => ?_)
  refine (done_code B (newS knL) ⟨#[]⟩ 0 msgA W hsW hkW (fun k hk => by rw [show msgA.who = ⟨#[97]⟩ from rfl, kn_a] at hk; cases hk; exact acctK_ok _ _) (by decide) (Nat.zero_le _) (code_of kn_a).2 codeA (code_of kn_a).1 (by decide) (fun _ f' => doneV f' = doneC 0 (be 32 5) 78) 8 (fun p tos W1 _ _ _ _ hF => run_a p _ tos W1 hF)).mono ?_
  rintro e w' ⟨W', f', hd, rfl, hb⟩
  exact ⟨by rw [hd]; rfl, hb⟩
theorem show_y (B : Nat) (w : World) (hs : StAt B w (newS knL)) (hK : KecT w) : Calls Tryz.prog 32 #[.pointer (some ⟨B + 6, 0, none⟩), .agg #[.string ⟨#[]⟩, .int .u64 0], .agg #[.string ⟨#[]⟩, .string ⟨#[98]⟩, .string ⟨#[98]⟩, .int .u64 0, .int .u64 0, .int .u64 0, .int .u64 0, .string ⟨#[]⟩, .int .u64 1000, .bool false, .int .i64 0, .bool false]] w fun e w' => e = .returned (.agg #[.int .i64 2, .string ⟨#[]⟩, .int .u64 0]) ∧ Below w.heap.size w w' := by
  refine call_code B (newS knL) ⟨#[]⟩ 0 msgB w hs hK rfl (by decide) rfl 2 [] 0 (fun W hsW hkW => ?_)
  refine (done_code B (newS knL) ⟨#[]⟩ 0 msgB W hsW hkW (fun k hk => by rw [show msgB.who = ⟨#[98]⟩ from rfl, kn_b] at hk; cases hk; exact acctK_ok _ _) (by decide) (Nat.zero_le _) (code_of kn_b).2 codeB (code_of kn_b).1 (by decide) (fun _ f' => doneV f' = doneC 2 [] 0) (3 * 90 + 3) (fun p tos W1 _ _ _ ht hF => run_b p _ tos W1 90 W1 _ (Nat.le_refl _) (Below.refl _ _) ht hF rfl)).mono ?_
  rintro e w' ⟨W', f', hd, rfl, hb⟩
  exact ⟨by rw [hd]; rfl, hb⟩
theorem show_z (B : Nat) (w : World) (hs : StAt B w (newS knL)) (hK : KecT w) : Calls Tryz.prog 32 #[.pointer (some ⟨B + 6, 0, none⟩), .agg #[.string ⟨#[]⟩, .int .u64 0], .agg #[.string ⟨#[]⟩, .string ⟨#[99]⟩, .string ⟨#[99]⟩, .int .u64 0, .int .u64 0, .int .u64 0, .int .u64 0, .string ⟨#[]⟩, .int .u64 1000, .bool false, .int .i64 0, .bool false]] w fun e w' => e = .returned (.agg #[.int .i64 3, .string ⟨#[]⟩, .int .u64 0]) ∧ Below w.heap.size w w' := by
  refine call_code B (newS knL) ⟨#[]⟩ 0 msgC0 w hs hK rfl (by decide) rfl 3 [] 0 (fun W hsW hkW => ?_)
  exact done_miss B (newS knL) ⟨#[]⟩ 0 msgC0 W hsW hkW (fun k hk => by rw [show msgC0.who = ⟨#[99]⟩ from rfl, kn_c] at hk; cases hk) (by decide) (Nat.zero_le _) (by unfold codeN; rw [show msgC0.who = ⟨#[99]⟩ from rfl, kn_c])
theorem done3 (w : World) (v1 : Int) (v2 : ByteArray) (v3 : Int) : ∃ W, (w.alloc (.cells #[.int .i64 0, .string ⟨#[]⟩, .int .u64 0] 28)).setCells w.heap.size 0 [.int .i64 v1, .string v2, .int .u64 v3] = W ∧ HasCells W w.heap.size [.int .i64 v1, .string v2, .int .u64 v3] 28 ∧ Below w.heap.size w W :=
  ⟨_, rfl, (HasCells.new w [.int .i64 0, .string ⟨#[]⟩, .int .u64 0] 28).whole rfl, below_sets (Nat.le_refl _) _ _ _ ((Below.refl _ _).alloc (Nat.le_refl _) _)⟩
set_option maxRecDepth 100000 in
set_option maxHeartbeats 6400000 in
theorem shown_any (w : World) (hK : KecT w) : Calls Tryz.prog 17 #[] w fun e w' => e = .returned (.bool true) ∧ Below w.heap.size w w' := by
  have HKT := Lib.hid hK
  obtain ⟨Z, hZ⟩ : ∃ Z, zero32 = Z := ⟨_, rfl⟩
  obtain ⟨R, hR⟩ : ∃ R, kecB [128] = R := ⟨_, rfl⟩
  have HAC := Lib.hid (show ∀ a c W, Calls Tryz.prog 34 #[.string a, .string c] W fun e w' => e = .returned (.agg #[.string a, .bool true, .int .u64 0, .int .u64 0, .int .u64 0, .int .u64 0, .int .u64 0, .string R, .string Z, .bool true, .string c, .slice none 0 0]) ∧ Below W.heap.size W w' from fun a c W => by
    rw [← hZ, ← hR]
    have h := account_any a c W
    rw [show kcells (acctK a c) = ([.string a, .bool true, .int .u64 0, .int .u64 0, .int .u64 0, .int .u64 0, .int .u64 0, .string (kecB [128]), .string zero32, .bool true, .string c, .slice none 0 0] : List Value) from by show ([.string a, .bool true, .int .u64 (0 : Nat), .int .u64 (limb 0 0), .int .u64 (limb 0 1), .int .u64 (limb 0 2), .int .u64 (limb 0 3), .string (kecB [128]), .string zero32, .bool true, .string c, .slice none 0 0] : List Value) = _; simp only [limb_nought]; rfl] at h
    exact h)
  have HL := Lib.hid (show knL.flatMap kcells = [.string ⟨#[97]⟩, .bool true, .int .u64 0, .int .u64 0, .int .u64 0, .int .u64 0, .int .u64 0, .string R, .string Z, .bool true, .string ⟨#[96, 2, 96, 3, 1, 95, 82, 96, 32, 95, 243]⟩, .slice none 0 0, .string ⟨#[98]⟩, .bool true, .int .u64 0, .int .u64 0, .int .u64 0, .int .u64 0, .int .u64 0, .string R, .string Z, .bool true, .string ⟨#[91, 95, 86]⟩, .slice none 0 0] from by
    rw [← hZ, ← hR]
    show ([.string ⟨#[97]⟩, .bool true, .int .u64 (0 : Nat), .int .u64 (limb 0 0), .int .u64 (limb 0 1), .int .u64 (limb 0 2), .int .u64 (limb 0 3), .string (kecB [128]), .string zero32, .bool true, .string ⟨#[96, 2, 96, 3, 1, 95, 82, 96, 32, 95, 243]⟩, .slice none 0 0, .string ⟨#[98]⟩, .bool true, .int .u64 (0 : Nat), .int .u64 (limb 0 0), .int .u64 (limb 0 1), .int .u64 (limb 0 2), .int .u64 (limb 0 3), .string (kecB [128]), .string zero32, .bool true, .string ⟨#[91, 95, 86]⟩, .slice none 0 0] : List Value) = _
    simp only [limb_nought]
    rfl)
  clear hK hZ hR
  go_enter Tryz.func17, Tryz.ntmps17
  go_wp2_with fail
  refine (HAC.out _ _ _).mono ?_
  rintro e w1 ⟨rfl, hb1⟩
  have HB1 := Lib.hid hb1
  clear hb1
  go_wp2_with fail
  refine (HAC.out _ _ _).mono ?_
  rintro e w2 ⟨rfl, hb2⟩
  have HB2 := Lib.hid (HB1.out.trans (hb2.mono HB1.out.size))
  clear hb2
  go_wp2_with fail
  obtain ⟨w3, hw3⟩ : ∃ W, w2.alloc (.cells #[.string ⟨#[97]⟩, .bool true, .int .u64 0, .int .u64 0, .int .u64 0, .int .u64 0, .int .u64 0, .string R, .string Z, .bool true, .string ⟨#[96, 2, 96, 3, 1, 95, 82, 96, 32, 95, 243]⟩, .slice none 0 0, .string ⟨#[98]⟩, .bool true, .int .u64 0, .int .u64 0, .int .u64 0, .int .u64 0, .int .u64 0, .string R, .string Z, .bool true, .string ⟨#[91, 95, 86]⟩, .slice none 0 0] 52) = W := ⟨_, rfl⟩
  have HN := Lib.hid (show HasCells w3 w2.heap.size (knL.flatMap kcells) 52 from by rw [← hw3, HL.out]; exact HasCells.new w2 _ 52)
  have HB3 := Lib.hid (show Below w.heap.size w w3 from by rw [← hw3]; exact HB2.out.alloc HB2.out.size _)
  have HKN3 := Lib.hid (show KnAt w3 (.slice (some ⟨w2.heap.size, 0, none⟩) 2 2) knL from .inr ⟨_, 2, rfl, Nat.le_refl _, HN.out.lt, HN.out.range⟩)
  have HNW := Lib.hid (fun W (h : KnAt W (.slice (some ⟨w2.heap.size, 0, none⟩) 2 2) knL) => new_any (.slice (some ⟨w2.heap.size, 0, none⟩) 2 2) knL W h (fun k hk => by
    rcases List.mem_cons.1 hk with rfl | hk
    · exact acctK_ok _ _
    · rw [List.mem_singleton] at hk; subst hk; exact acctK_ok _ _) (by decide))
  rw [hw3]
  clear hw3 HN
  refine (HNW.out _ (HKN3.out)).mono ?_
  rintro e a3 ⟨rfl, hs, hb⟩
  have HS3 := Lib.hid hs
  have HA3 := Lib.hid (HB3.out.trans (hb.mono HB3.out.size))
  have HKA3 := Lib.hid (HKN3.out.after hb)
  clear hs hb
  go_wp2_with fail
  refine (show_x _ _ HS3.out (HKT.out.below HA3.out)).mono ?_
  rintro e b3 ⟨rfl, hb⟩
  obtain ⟨d3, hd, ht, hbd⟩ := done3 b3 0 ⟨(be 32 5).toArray⟩ 78
  have HD3 := Lib.hid hd
  have HT3 := Lib.hid ht
  have HZ3 := Lib.hid (HasCells.new b3 [.int .i64 0, .string ⟨#[]⟩, .int .u64 0] 28)
  have HB4 := Lib.hid (HA3.out.trans ((hb.trans (hbd.mono hb.size)).mono HA3.out.size))
  have HKN4 := Lib.hid ((HKA3.out.after hb).after hbd)
  clear hd ht hb hbd
  go_wp2_with ((with_reducible refine store_gateK 28 ?_); refine wpList_store_mid rfl 28 _ _ rfl b3.heap.size 0 #[.int .i64 0, .string ⟨(be 32 5).toArray⟩, .int .u64 78] rfl rfl (HZ3.out.there 0 _ (Nat.le_refl _)) infoDone (three_one _ _ _) ?_; rw [show ((#[.int .i64 0, .string ⟨(be 32 5).toArray⟩, .int .u64 78] : Array Value)).toList = [.int .i64 0, .string ⟨(be 32 5).toArray⟩, .int .u64 78] from rfl, HD3.out])
  refine (HNW.out _ (HKN4.out)).mono ?_
  rintro e a4 ⟨rfl, hs, hb⟩
  have HS4 := Lib.hid hs
  have HA4 := Lib.hid (HB4.out.trans (hb.mono HB4.out.size))
  have HKA4 := Lib.hid (HKN4.out.after hb)
  have HT3a := Lib.hid (HT3.out.after hb)
  clear hs hb
  go_wp2_with fail
  refine (show_y _ _ HS4.out (HKT.out.below HA4.out)).mono ?_
  rintro e b4 ⟨rfl, hb⟩
  obtain ⟨d4, hd, ht, hbd⟩ := done3 b4 2 ⟨#[]⟩ 0
  have HD4 := Lib.hid hd
  have HT4 := Lib.hid ht
  have HZ4 := Lib.hid (HasCells.new b4 [.int .i64 0, .string ⟨#[]⟩, .int .u64 0] 28)
  have HB5 := Lib.hid (HA4.out.trans ((hb.trans (hbd.mono hb.size)).mono HA4.out.size))
  have HKN5 := Lib.hid ((HKA4.out.after hb).after hbd)
  have HT3x := Lib.hid ((HT3a.out.after hb).after hbd)
  clear hd ht hb hbd
  go_wp2_with ((with_reducible refine store_gateK 28 ?_); refine wpList_store_mid rfl 28 _ _ rfl b4.heap.size 0 #[.int .i64 2, .string ⟨#[]⟩, .int .u64 0] rfl rfl (HZ4.out.there 0 _ (Nat.le_refl _)) infoDone (three_one _ _ _) ?_; rw [show ((#[.int .i64 2, .string ⟨#[]⟩, .int .u64 0] : Array Value)).toList = [.int .i64 2, .string ⟨#[]⟩, .int .u64 0] from rfl, HD4.out])
  refine (HNW.out _ (HKN5.out)).mono ?_
  rintro e a5 ⟨rfl, hs, hb⟩
  have HS5 := Lib.hid hs
  have HA5 := Lib.hid (HB5.out.trans (hb.mono HB5.out.size))
  have HKA5 := Lib.hid (HKN5.out.after hb)
  have HT3a := Lib.hid (HT3x.out.after hb)
  have HT4a := Lib.hid (HT4.out.after hb)
  clear hs hb
  go_wp2_with fail
  refine (show_z _ _ HS5.out (HKT.out.below HA5.out)).mono ?_
  rintro e b5 ⟨rfl, hb⟩
  obtain ⟨d5, hd, ht, hbd⟩ := done3 b5 3 ⟨#[]⟩ 0
  have HD5 := Lib.hid hd
  have HT5 := Lib.hid ht
  have HZ5 := Lib.hid (HasCells.new b5 [.int .i64 0, .string ⟨#[]⟩, .int .u64 0] 28)
  have HB6 := Lib.hid (HA5.out.trans ((hb.trans (hbd.mono hb.size)).mono HA5.out.size))
  have HKN6 := Lib.hid ((HKA5.out.after hb).after hbd)
  have HT3x := Lib.hid ((HT3a.out.after hb).after hbd)
  have HT4x := Lib.hid ((HT4a.out.after hb).after hbd)
  clear hd ht hb hbd
  go_wp2_with ((with_reducible refine store_gateK 28 ?_); refine wpList_store_mid rfl 28 _ _ rfl b5.heap.size 0 #[.int .i64 3, .string ⟨#[]⟩, .int .u64 0] rfl rfl (HZ5.out.there 0 _ (Nat.le_refl _)) infoDone (three_one _ _ _) ?_; rw [show ((#[.int .i64 3, .string ⟨#[]⟩, .int .u64 0] : Array Value)).toList = [.int .i64 3, .string ⟨#[]⟩, .int .u64 0] from rfl, HD5.out])
  try simp only [Act.put]
  have HSA := Lib.hid (And.intro (HT3x.out.cell (j := 0) rfl) (And.intro (HT3x.out.cell (j := 1) rfl) (And.intro (HT3x.out.cell (j := 2) rfl) (And.intro (HT4x.out.cell (j := 0) rfl) (And.intro (HT4x.out.cell (j := 2) rfl) (HT5.out.cell (j := 0) rfl))))))
  have hbb : ((⟨(be 32 5).toArray⟩ : ByteArray).toList == (⟨(be 32 5).toArray⟩ : ByteArray).toList) = true := beq_self_eq_true _
  have HWB := Lib.hid (show ∀ W, Calls Tryz.prog 12 #[.agg #[.int .u64 5, .int .u64 0, .int .u64 0, .int .u64 0]] W fun e w' => e = .returned (.string ⟨(be 32 5).toArray⟩) ∧ Below W.heap.size W w' from fun W => wordBytes_any 5 W)
  refine wp_region_held_drew (S := (fun W => W.cell? ⟨b3.heap.size, 0, none⟩ = some (.int .i64 0) ∧ W.cell? ⟨b3.heap.size, 1, none⟩ = some (.string ⟨(be 32 5).toArray⟩) ∧ W.cell? ⟨b3.heap.size, 2, none⟩ = some (.int .u64 78) ∧ W.cell? ⟨b4.heap.size, 0, none⟩ = some (.int .i64 2) ∧ W.cell? ⟨b4.heap.size, 2, none⟩ = some (.int .u64 0) ∧ W.cell? ⟨b5.heap.size, 0, none⟩ = some (.int .i64 3))) (by kernel_rfl) (HSA.out) (fun hHeld => ?_)
  refine hT 0 ?_
  refine hD 1 ?_
  refine hT 2 ?_
  refine hT 3 ?_
  refine hT 4 ?_
  refine hD 5 ?_
  refine wpAnyH_ready (rs := [6]) (by kernel_rfl) (by simp) ?_
  refine AllReadyH.cons rfl (fun K hK => ?_) AllReadyH.nil
  go_simp
  go_at_call 45
  refine (of_any 5 _).mono ?_
  rintro e w7 ⟨rfl, hb7⟩
  have hb7 := (Below.refl _ d5).drew.trans hb7
  have HB7 := Lib.hid (HB6.out.trans (hb7.mono HB6.out.size))
  have HT3p := Lib.hid (HT3x.out.after hb7)
  have HT4p := Lib.hid (HT4x.out.after hb7)
  have HT5p := Lib.hid (HT5.out.after hb7)
  clear hb7
  refine hK.out _ _ (⟨HT3p.out.cell (j := 0) rfl, HT3p.out.cell (j := 1) rfl, HT3p.out.cell (j := 2) rfl, HT4p.out.cell (j := 0) rfl, HT4p.out.cell (j := 2) rfl, HT5p.out.cell (j := 0) rfl⟩) (fun hHeld => ?_)
  clear hK K
  try simp only [Act.put, zq]
  refine wpAnyH_ready (rs := [7]) (by kernel_rfl) (by simp) ?_
  refine AllReadyH.cons rfl (fun K hK => ?_) AllReadyH.nil
  go_simp
  go_at_call 12
  refine (HWB.out _).mono ?_
  rintro e w8 ⟨rfl, hb8⟩
  have HB8 := Lib.hid (HB7.out.trans (hb8.mono HB7.out.size))
  have HT3q := Lib.hid (HT3p.out.after hb8)
  have HT4q := Lib.hid (HT4p.out.after hb8)
  have HT5q := Lib.hid (HT5p.out.after hb8)
  clear hb8
  refine hK.out _ _ (⟨HT3q.out.cell (j := 0) rfl, HT3q.out.cell (j := 1) rfl, HT3q.out.cell (j := 2) rfl, HT4q.out.cell (j := 0) rfl, HT4q.out.cell (j := 2) rfl, HT5q.out.cell (j := 0) rfl⟩) (fun hHeld => ?_)
  clear hK K
  try simp only [Act.put, zq]
  refine hT 8 ?_
  refine hT 9 ?_
  refine hT 10 ?_
  refine hT 11 ?_
  refine hD 12 ?_
  refine hT 13 ?_
  refine hT 14 ?_
  refine hT 15 ?_
  refine hT 16 ?_
  refine hD 17 ?_
  refine hT 18 ?_
  refine hT 19 ?_
  refine hT 20 ?_
  refine hT 21 ?_
  refine hD 22 ?_
  refine hT 23 ?_
  refine hT 24 ?_
  refine hT 25 ?_
  refine hT 26 ?_
  refine hD 27 ?_
  refine hT 28 ?_
  refine hT 29 ?_
  refine hT 30 ?_
  refine wpAnyH_done (by kernel_rfl) ?_ 0
  go_wp2
  go_ret
  exact ⟨rfl, HB8.out⟩
end Go.Proofs.YtlelgbmbmajfmaaGreatDoor

namespace Go.Proofs.YtlelgbmbmajfmaaGreatDoor
open Go.RowKit Go.Shelf Go.Lib
attribute [local go_sem] Oper.semAt_some
theorem BoxAt.up {B : Nat} {w W W' : World} {org : ByteArray} {num : Nat} {m : MsgE} (h : BoxAt w org num m W) (hB : B + 6 < w.heap.size) (hu : StUp B W W') : HasCells W' w.heap.size (envC org num) 41 ∧ HasCells W' (w.heap.size + 1) (msgC m) 43 ∧ HasCells W' (w.heap.size + 2) [.int .i64 0, .string ⟨#[]⟩, .int .u64 0] 28 ∧ w.heap.size + 3 ≤ W'.heap.size := by
  have hs := h.size
  exact ⟨h.env.kept (hu.rest _ (by omega) (by omega)), h.msg.kept (hu.rest _ (by omega) (by omega)), h.don.kept (hu.rest _ (by omega) (by omega)), Nat.le_trans hs hu.below.size⟩
set_option maxRecDepth 100000 in
set_option maxHeartbeats 6400000 in
theorem call_poor (B : Nat) (S : StE) (org : ByteArray) (num : Nat) (m : MsgE) (w : World) (hs : StAt B w S) (hu : S.undo = .slice none 0 0) (hz : m.depth ≤ 64) (hv : ¬ m.value = 0) (hv2 : m.value < 256 ^ 32) (hst : m.stays = false)
    (HM : ∀ W, StAt B W S → Calls Tryz.prog 58 #[.pointer (some ⟨B + 6, 0, none⟩), .string m.src, .string m.dst, .agg #[.int .u64 (limb m.value 0), .int .u64 (limb m.value 1), .int .u64 (limb m.value 2), .int .u64 (limb m.value 3)]] W fun e w' => e = .returned (.int .i64 191) ∧ Below W.heap.size W w') :
    Calls Tryz.prog 32 #[.pointer (some ⟨B + 6, 0, none⟩), .agg #[.string org, .int .u64 num], .agg #[.string m.src, .string m.dst, .string m.who, .int .u64 (limb m.value 0), .int .u64 (limb m.value 1), .int .u64 (limb m.value 2), .int .u64 (limb m.value 3), .string ⟨m.data.toArray⟩, .int .u64 m.gas, .bool m.still, .int .i64 m.depth, .bool m.stays]] w fun e w' => e = .returned (.agg #[.int .i64 2, .string ⟨#[]⟩, .int .u64 m.gas]) ∧ Below w.heap.size w w' := by
  have hlt := hs.lt
  have hbx := box_at w org num m
  obtain ⟨w1, hw1⟩ : ∃ W, boxW w org num m = W := ⟨_, rfl⟩
  rw [hw1] at hbx
  have HS1 := Lib.hid (hs.after hbx.below)
  have c10 := hbx.msg.cell (j := 10) rfl
  have c0 := hbx.msg.cell (j := 0) rfl
  have c1 := hbx.msg.cell (j := 1) rfl
  have c11 : w1.cell? ⟨w.heap.size + 1, 11, none⟩ = some (.bool false) := (hbx.msg.cell (j := 11) rfl).trans (by rw [hst])
  have hvw : W4 w1 (w.heap.size + 1) 3 m.value := fun j u hj => by
    have hj4 : j < 4 := (List.getElem?_eq_some_iff.1 hj).1
    have := hbx.msg.range (3 + j) u (by
      match j, hj4, hj with
      | 0, _, hj => exact hj
      | 1, _, hj => exact hj
      | 2, _, hj => exact hj
      | 3, _, hj => exact hj)
    rwa [Nat.zero_add] at this
  have hne : ∀ W, (binOp .neq 24 (.agg #[.int .u64 (limb m.value 0), .int .u64 (limb m.value 1), .int .u64 (limb m.value 2), .int .u64 (limb m.value 3)]) (.agg #[.int .u64 0, .int .u64 0, .int .u64 0, .int .u64 0])).run Tryz.prog W = .ok (.bool true) W := fun W => by
    have h := neq_words m.value 0 hv2 (by decide) W
    simp only [limb_nought, hv, decide_false, Bool.not_false] at h
    exact h
  have HVW := Lib.hid hvw
  have HBX := Lib.hid hbx
  have HW1 := Lib.hid hw1
  have k1 : ¬ ((m.depth : Int) < 0) := by omega
  have k2 : ¬ ((64 : Int) < m.depth) := by omega
  have HMK := Lib.hid (fun W (h : StAt B W S) => mark_any B S 0 W h none 0 hu)
  have HMM := Lib.hid HM
  clear hbx hw1 hs HM hu hz hv hv2 hst hvw
  unfold boxW at HW1
  go_enter Tryz.func32, Tryz.ntmps32
  go_wp2_with (rw [HW1.out])
  refine (HMK.out _ HS1.out).mono ?_
  rintro e w2 ⟨rfl, rfl⟩
  go_wp2_with ((with_reducible refine load_gateK 24 ?_); refine wpList_load_midK rfl 24 _ rfl (w.heap.size + 1) 3 rfl [.int .u64 (limb m.value 0), .int .u64 (limb m.value 1), .int .u64 (limb m.value 2), .int .u64 (limb m.value 3)] _ HVW.out Tryz.underlying24 rfl infoW ?_)
  refine (HMM.out _ HS1.out).mono ?_
  rintro e w3 ⟨rfl, hb3⟩
  have HX3 := Lib.hid (HBX.out.after hb3)
  clear c10 c0 c1 c11 hb3
  have c8 := HX3.out.msg.cell (j := 8) rfl
  go_wp2_with ((with_reducible refine store_gateK 28 ?_); refine wpList_store_mid rfl 28 _ _ rfl (w.heap.size + 2) 0 #[.int .i64 2, .string ⟨#[]⟩, .int .u64 m.gas] rfl rfl (HX3.out.don.there 0 _ (Nat.le_refl _)) infoDone (three_one _ _ _) ?_)
  have hf := HX3.out.don.whole (vs := [.int .i64 2, .string ⟨#[]⟩, .int .u64 m.gas]) rfl
  refine bodyPost_ret (results_cells rfl _ _ (w.heap.size + 2) [.int .i64 2, .string ⟨#[]⟩, .int .u64 m.gas] _ (by rfl) hf.range Tryz.underlying28 rfl infoDone) rfl ⟨rfl, below_sets (by omega) _ _ _ HX3.out.below⟩
set_option maxRecDepth 100000 in
set_option maxHeartbeats 6400000 in
theorem call_rich (B : Nat) (S : StE) (S2 : Value → StE) (org : ByteArray) (num : Nat) (m : MsgE) (w : World) (hs : StAt B w S) (hu : S.undo = .slice none 0 0) (hz : m.depth ≤ 64) (hv : ¬ m.value = 0) (hv2 : m.value < 256 ^ 32) (hst : m.stays = false)
    (HKB : ∀ W, Below B w W → KecT W) (out : List UInt8) (left : Nat)
    (HM : ∀ W, StAt B W S → Calls Tryz.prog 58 #[.pointer (some ⟨B + 6, 0, none⟩), .string m.src, .string m.dst, .agg #[.int .u64 (limb m.value 0), .int .u64 (limb m.value 1), .int .u64 (limb m.value 2), .int .u64 (limb m.value 3)]] W fun e w' => e = .returned (.int .i64 0) ∧ StUp B W w' ∧ ∃ u, StAt B w' (S2 u))
    (HD : ∀ u W, StAt B W (S2 u) → KecT W → Calls Tryz.prog 59 #[.pointer (some ⟨B + 6, 0, none⟩), .agg #[.string org, .int .u64 num], .agg #[.string m.src, .string m.dst, .string m.who, .int .u64 (limb m.value 0), .int .u64 (limb m.value 1), .int .u64 (limb m.value 2), .int .u64 (limb m.value 3), .string ⟨m.data.toArray⟩, .int .u64 m.gas, .bool m.still, .int .i64 m.depth, .bool m.stays]] W fun e w' => e = .returned (.agg #[.int .i64 0, .string ⟨out.toArray⟩, .int .u64 left]) ∧ Below W.heap.size W w') :
    Calls Tryz.prog 32 #[.pointer (some ⟨B + 6, 0, none⟩), .agg #[.string org, .int .u64 num], .agg #[.string m.src, .string m.dst, .string m.who, .int .u64 (limb m.value 0), .int .u64 (limb m.value 1), .int .u64 (limb m.value 2), .int .u64 (limb m.value 3), .string ⟨m.data.toArray⟩, .int .u64 m.gas, .bool m.still, .int .i64 m.depth, .bool m.stays]] w fun e w' => e = .returned (.agg #[.int .i64 0, .string ⟨out.toArray⟩, .int .u64 left]) ∧ StUp B w w' ∧ ∃ u, StAt B w' (S2 u) := by
  have hlt := hs.lt
  have hbx := box_at w org num m
  obtain ⟨w1, hw1⟩ : ∃ W, boxW w org num m = W := ⟨_, rfl⟩
  rw [hw1] at hbx
  have HS1 := Lib.hid (hs.after hbx.below)
  have c10 := hbx.msg.cell (j := 10) rfl
  have c0 := hbx.msg.cell (j := 0) rfl
  have c1 := hbx.msg.cell (j := 1) rfl
  have c11 : w1.cell? ⟨w.heap.size + 1, 11, none⟩ = some (.bool false) := (hbx.msg.cell (j := 11) rfl).trans (by rw [hst])
  have hvw : W4 w1 (w.heap.size + 1) 3 m.value := fun j u hj => by
    have hj4 : j < 4 := (List.getElem?_eq_some_iff.1 hj).1
    have := hbx.msg.range (3 + j) u (by
      match j, hj4, hj with
      | 0, _, hj => exact hj
      | 1, _, hj => exact hj
      | 2, _, hj => exact hj
      | 3, _, hj => exact hj)
    rwa [Nat.zero_add] at this
  have hne : ∀ W, (binOp .neq 24 (.agg #[.int .u64 (limb m.value 0), .int .u64 (limb m.value 1), .int .u64 (limb m.value 2), .int .u64 (limb m.value 3)]) (.agg #[.int .u64 0, .int .u64 0, .int .u64 0, .int .u64 0])).run Tryz.prog W = .ok (.bool true) W := fun W => by
    have h := neq_words m.value 0 hv2 (by decide) W
    simp only [limb_nought, hv, decide_false, Bool.not_false] at h
    exact h
  have HVW := Lib.hid hvw
  have HBX := Lib.hid hbx
  have HW1 := Lib.hid hw1
  have k1 : ¬ ((m.depth : Int) < 0) := by omega
  have k2 : ¬ ((64 : Int) < m.depth) := by omega
  have HMK := Lib.hid (fun W (h : StAt B W S) => mark_any B S 0 W h none 0 hu)
  have HMM := Lib.hid HM
  have HDD := Lib.hid HD
  have HKK := Lib.hid HKB
  have HU1 := Lib.hid (StUp.of hbx.below (show B ≤ w.heap.size by omega))
  clear hbx hw1 hs HM hu hz hv hv2 hst hvw HD HKB
  unfold boxW at HW1
  go_enter Tryz.func32, Tryz.ntmps32
  go_wp2_with (rw [HW1.out])
  refine (HMK.out _ HS1.out).mono ?_
  rintro e w2 ⟨rfl, rfl⟩
  go_wp2_with ((with_reducible refine load_gateK 24 ?_); refine wpList_load_midK rfl 24 _ rfl (w.heap.size + 1) 3 rfl [.int .u64 (limb m.value 0), .int .u64 (limb m.value 1), .int .u64 (limb m.value 2), .int .u64 (limb m.value 3)] _ HVW.out Tryz.underlying24 rfl infoW ?_)
  refine (HMM.out _ HS1.out).mono ?_
  rintro e w3 ⟨rfl, hu3, u, hs3⟩
  obtain ⟨he3, hm3, hd3, hz3⟩ := HBX.out.up hlt hu3
  have HE3 := Lib.hid he3
  have HM3 := Lib.hid hm3
  have HO3 := Lib.hid hd3
  have HU3 := Lib.hid (HU1.out.trans hu3)
  have HS3 := Lib.hid hs3
  clear c10 c0 c1 c11 hu3 he3 hm3 hd3 hs3
  go_wp2_with (first | ((with_reducible refine load_gateK 43 ?_); refine wpList_load_midK rfl 43 _ rfl (w.heap.size + 1) 0 rfl (msgC m) _ HM3.out.range Tryz.underlying43 rfl infoMsg ?_) | ((with_reducible refine load_gateK 41 ?_); refine wpList_load_midK rfl 41 _ rfl w.heap.size 0 rfl (envC org num) _ HE3.out.range Tryz.underlying41 rfl infoEnv ?_))
  refine (HDD.out u _ HS3.out (HKK.out _ HU3.out.below)).mono ?_
  rintro e b4 ⟨rfl, hb4⟩
  obtain ⟨w4, hd4, ht4, hbd4⟩ := done3 b4 0 ⟨out.toArray⟩ left
  have HD4 := Lib.hid hd4
  have HT4 := Lib.hid ht4
  have HN4 := Lib.hid (HasCells.new b4 [.int .i64 0, .string ⟨#[]⟩, .int .u64 0] 28)
  have HO4 := Lib.hid ((HO3.out.after hb4).after hbd4)
  have HU4 := Lib.hid ((HU3.out.next (by omega) hb4).next (by omega) hbd4)
  have HS4 := Lib.hid ((HS3.out.after hb4).after hbd4)
  have hq4 : w.heap.size + 2 < b4.heap.size := by have := hb4.size; omega
  clear hd4 hb4 hbd4
  have d0 := ht4.cell (j := 0) rfl
  clear ht4
  go_wp2_with (first | ((with_reducible refine store_gateK 28 ?_); refine wpList_store_mid rfl 28 _ _ rfl b4.heap.size 0 #[.int .i64 0, .string ⟨out.toArray⟩, .int .u64 left] rfl rfl (HN4.out.there 0 _ (Nat.le_refl _)) infoDone (three_one _ _ _) ?_; rw [show ((#[.int .i64 0, .string ⟨out.toArray⟩, .int .u64 left] : Array Value)).toList = ([.int .i64 0, .string ⟨out.toArray⟩, .int .u64 left] : List Value) from rfl, HD4.out]) | ((with_reducible refine load_gateK 28 ?_); refine wpList_load_midK rfl 28 _ rfl b4.heap.size 0 rfl [.int .i64 0, .string ⟨out.toArray⟩, .int .u64 left] _ HT4.out.range Tryz.underlying28 rfl infoDone ?_) | ((with_reducible refine store_gateK 28 ?_); refine wpList_store_mid rfl 28 _ _ rfl (w.heap.size + 2) 0 #[.int .i64 0, .string ⟨out.toArray⟩, .int .u64 left] rfl rfl (HO4.out.there 0 _ (Nat.le_refl _)) infoDone (three_one _ _ _) ?_))
  have hf := HO4.out.whole (vs := [.int .i64 0, .string ⟨out.toArray⟩, .int .u64 left]) rfl
  have hot : ∀ q, q ≠ w.heap.size + 2 → (w4.setCells (w.heap.size + 2) 0 [.int .i64 0, .string ⟨out.toArray⟩, .int .u64 left]).heap[q]? = w4.heap[q]? := fun q hq => setCells_other hq _ _ _
  refine bodyPost_ret (results_cells rfl _ _ (w.heap.size + 2) [.int .i64 0, .string ⟨out.toArray⟩, .int .u64 left] _ (by rfl) hf.range Tryz.underlying28 rfl infoDone) rfl ⟨rfl, ⟨below_sets (by omega) _ _ _ HU4.out.below, fun q h1 h2 => (hot q (by omega)).trans (HU4.out.rest q h1 h2)⟩, u, HS4.out.kept fun k _ h => hot k (by omega)⟩
end Go.Proofs.YtlelgbmbmajfmaaGreatDoor

namespace Go.Proofs.YtlelgbmbmajfmaaGreatDoor
open Go.RowKit Go.Shelf Go.Lib
def stK (a : ByteArray) (v : Nat) : KnE := ⟨a, true, 0, v, kecB [128], kecB [], false, ⟨#[]⟩, .slice none 0 0⟩
def stL (own other : Nat) : List KnE := [stK (⟨#[97]⟩ : ByteArray) own, stK (⟨#[98]⟩ : ByteArray) other]
theorem stK_ok (a : ByteArray) (v : Nat) : KnOk (stK a v) := ⟨none, 0, 0, rfl⟩
theorem st_kn (own other : Nat) : (newS (stL own other)).kn (⟨#[97]⟩ : ByteArray) = some (stK (⟨#[97]⟩ : ByteArray) own) ∧ (newS (stL own other)).kn (⟨#[98]⟩ : ByteArray) = some (stK (⟨#[98]⟩ : ByteArray) other) := by
  refine ⟨setF_same _ _ _, ?_⟩
  show setF (setF (fun _ => none) (stK (⟨#[98]⟩ : ByteArray) other).addr (stK (⟨#[98]⟩ : ByteArray) other)) (stK (⟨#[97]⟩ : ByteArray) own).addr (stK (⟨#[97]⟩ : ByteArray) own) (⟨#[98]⟩ : ByteArray) = _
  rw [setF_other _ _ (by show ¬ ((⟨#[98]⟩ : ByteArray) = (⟨#[97]⟩ : ByteArray)); decide)]
  exact setF_same _ _ _
theorem st_bl (own other : Nat) : (newS (stL own other)).bl (⟨#[97]⟩ : ByteArray) = some own ∧ (newS (stL own other)).bl (⟨#[98]⟩ : ByteArray) = some other := by
  refine ⟨setF_same _ _ _, ?_⟩
  show setF (setF (setF (setF (fun _ => none) (⟨#[98]⟩ : ByteArray) 0) (⟨#[98]⟩ : ByteArray) other) (⟨#[97]⟩ : ByteArray) 0) (⟨#[97]⟩ : ByteArray) own (⟨#[98]⟩ : ByteArray) = _
  rw [setF_other _ _ (by decide), setF_other _ _ (by decide)]
  exact setF_same _ _ _
theorem st_ok (own other : Nat) : ∀ k x, (newS (stL own other)).kn x = some k → KnOk k := by
  intro k x h
  have h2 : setF (setF (fun _ => none) (stK (⟨#[98]⟩ : ByteArray) other).addr (stK (⟨#[98]⟩ : ByteArray) other)) (stK (⟨#[97]⟩ : ByteArray) own).addr (stK (⟨#[97]⟩ : ByteArray) own) x = some k := h
  by_cases ha : x = (stK (⟨#[97]⟩ : ByteArray) own).addr
  · rw [ha, setF_same] at h2
    cases h2; exact stK_ok _ _
  · rw [setF_other _ _ ha] at h2
    by_cases hb : x = (stK (⟨#[98]⟩ : ByteArray) other).addr
    · rw [hb, setF_same] at h2
      cases h2; exact stK_ok _ _
    · rw [setF_other _ _ hb] at h2; cases h2
theorem st_code {S : StE} {a : ByteArray} {v : Nat} (h : S.kn a = some (stK a v)) : codeC S a = ⟨([] : List UInt8).toArray⟩ ∧ codeN S a = 0 := by
  have hz : (!((stK a v).hash.toList == (kecB []).toList)) = false := by rw [show (stK a v).hash = kecB [] from rfl, beq_self_eq_true]; rfl
  unfold codeC codeN
  rw [h]
  dsimp only
  rw [hz]
  exact ⟨rfl, rfl⟩
def msgS (val gas : Nat) (data : List UInt8) : MsgE := ⟨(⟨#[97]⟩ : ByteArray), (⟨#[98]⟩ : ByteArray), (⟨#[98]⟩ : ByteArray), val, data, gas, false, 0, false⟩
theorem run_stop (p : Nat) (s tos : Value) (W : World) (val gas : Nat) (data : List UInt8) (hg : gas < 18446744073709551616) (h : Fra p W (frame0 s ⟨#[]⟩ 0 (msgS val gas data) [] tos)) : RunTo p (fun W' f' => Below p W W' ∧ doneV f' = doneC 0 [] gas) 1 W (frame0 s ⟨#[]⟩ 0 (msgS val gas data) [] tos) := by
  refine RunTo.last (go_stop p _ _ W h rfl 0 ⟨rfl, rfl, Nat.zero_le _, Nat.zero_le _, Nat.zero_le _, hg, Nat.zero_le _, Nat.zero_le _⟩) rfl fun w1 f1 h1 k1 r1 => ⟨k1, ?_⟩
  have hd : doneV f1 = doneV (nf f1) := rfl
  rw [hd, h1]
  rfl
theorem done_stop (B : Nat) (S : StE) (other val gas : Nat) (data : List UInt8) (w : World) (hs : StAt B w S) (hK : KecT w) (hok : ∀ k x, S.kn x = some k → KnOk k) (hk : S.kn (⟨#[98]⟩ : ByteArray) = some (stK (⟨#[98]⟩ : ByteArray) other)) (hd : data.length ≤ 1099511627776) (hg : gas < 18446744073709551616) :
    Calls Tryz.prog 59 #[.pointer (some ⟨B + 6, 0, none⟩), .agg #[.string ⟨#[]⟩, .int .u64 (0 : Nat)], .agg #[.string ⟨#[97]⟩, .string ⟨#[98]⟩, .string ⟨#[98]⟩, .int .u64 (limb val 0), .int .u64 (limb val 1), .int .u64 (limb val 2), .int .u64 (limb val 3), .string ⟨data.toArray⟩, .int .u64 gas, .bool false, .int .i64 (0 : Nat), .bool false]] w fun e w' => e = .returned (.agg #[.int .i64 (0 : Nat), .string ⟨([] : List UInt8).toArray⟩, .int .u64 gas]) ∧ Below w.heap.size w w' := by
  refine (done_code B S ⟨#[]⟩ 0 (msgS val gas data) w hs hK (fun k h => hok k _ h) (show noReady (⟨#[98]⟩ : ByteArray) = true by decide) hd (st_code hk).2 [] (st_code hk).1 (by decide) (fun _ f' => doneV f' = doneC 0 [] gas) 1 (fun p tos W1 _ _ _ _ hF => run_stop p _ tos W1 val gas data hg hF)).mono ?_
  rintro e w' ⟨W', f', hd, rfl, hb⟩
  exact ⟨by rw [hd]; rfl, hb⟩
theorem limb_lt64 (a k : Nat) : limb a k < 18446744073709551616 := by unfold limb; exact Nat.mod_lt _ (by decide)
theorem borE_zero (a : Nat) : ∀ k, borE a 0 k = 0
  | 0 => rfl
  | k + 1 => by
    show (if limb a k < limb 0 k + borE a 0 k then 1 else 0) = 0
    rw [limb_nought, borE_zero a k, if_neg (by omega)]
theorem subW_zero (a : Nat) {k : Nat} (hk : k < 4) : limb (subW a 0) k = limb a k := by
  rw [limb_subW a 0 hk]
  unfold difE
  rw [limb_nought, borE_zero]
  have := limb_lt64 a k
  omega
theorem lessB_zero (a : Nat) : lessB a 0 = false := by
  unfold lessB
  have h : ∀ k, lessE a 0 k = false := by
    intro k
    induction k with
    | zero => rfl
    | succ k ih =>
      show (if limb a k = limb 0 k then lessE a 0 k else decide (limb a k < limb 0 k)) = false
      split
      · exact ih
      · rw [limb_nought]; rfl
  exact h 4
/-- the balances behind the call -/
def stX (own val : Nat) : Nat := if lessB own val then own else if val = 0 then own else subW own val
def stY (own other val : Nat) : Nat := if lessB own val then other else other + val
theorem call_stops (B : Nat) (own other val gas : Nat) (data : List UInt8) (w : World) (hs : StAt B w (newS (stL own other))) (HKB : ∀ W, Below B w W → KecT W) (hB : B ≤ w.heap.size) (hd : data.length ≤ 1099511627776) (hg : gas < 18446744073709551616) (hv : val < 256 ^ 32) :
    Calls Tryz.prog 32 #[.pointer (some ⟨B + 6, 0, none⟩), .agg #[.string ⟨#[]⟩, .int .u64 (0 : Nat)], .agg #[.string ⟨#[97]⟩, .string ⟨#[98]⟩, .string ⟨#[98]⟩, .int .u64 (limb val 0), .int .u64 (limb val 1), .int .u64 (limb val 2), .int .u64 (limb val 3), .string ⟨data.toArray⟩, .int .u64 gas, .bool false, .int .i64 (0 : Nat), .bool false]] w fun e w' => e = .returned (.agg #[.int .i64 ((if lessB own val then 2 else 0 : Nat) : Int), .string ⟨#[]⟩, .int .u64 gas]) ∧ StUp B w w' ∧ ∃ S', StAt B w' S' ∧ S'.kn = (newS (stL own other)).kn ∧ (S'.bl (⟨#[97]⟩ : ByteArray)).getD 0 = stX own val ∧ (S'.bl (⟨#[98]⟩ : ByteArray)).getD 0 = stY own other val := by
  have hka := (st_kn own other).1
  have hkb := (st_kn own other).2
  have hba := (st_bl own other).1
  have hbb := (st_bl own other).2
  have hok := st_ok own other
  unfold stX stY
  by_cases h0 : val = 0
  · subst h0
    rw [lessB_zero, if_neg (show ¬ (false = true) by decide), if_neg (show ¬ (false = true) by decide), if_pos rfl, if_neg (show ¬ (false = true) by decide)]
    refine (call_code B (newS (stL own other)) ⟨#[]⟩ 0 (msgS 0 gas data) w hs (HKB w (Below.refl _ _)) rfl (Nat.zero_le _) rfl 0 [] gas (fun W hsW hkW => done_stop B _ other 0 gas data W hsW hkW hok hkb hd hg)).mono ?_
    rintro e w' ⟨rfl, hb⟩
    exact ⟨rfl, StUp.of hb hB, _, hs.after hb, rfl, by rw [hba, Option.getD_some], by rw [hbb, Option.getD_some, Nat.add_zero]⟩
  · cases hl : lessB own val with
    | true =>
      rw [if_pos rfl, if_pos rfl, if_pos rfl]
      refine (call_poor B (newS (stL own other)) ⟨#[]⟩ 0 (msgS val gas data) w hs rfl (Nat.zero_le _) h0 hv rfl (fun W hsW => move_poor B _ (⟨#[97]⟩ : ByteArray) (⟨#[98]⟩ : ByteArray) val W hsW hok _ _ hka hkb (by rw [hba, Option.getD_some]; exact hl))).mono ?_
      rintro e w' ⟨rfl, hb⟩
      exact ⟨rfl, StUp.of hb hB, _, hs.after hb, rfl, by rw [hba, Option.getD_some], by rw [hbb, Option.getD_some]⟩
    | false =>
      rw [if_neg (show ¬ (false = true) by decide), if_neg (show ¬ (false = true) by decide), if_neg h0, if_neg (show ¬ (false = true) by decide)]
      refine (call_rich B (newS (stL own other)) (fun u => { newS (stL own other) with bl := setF (setF (newS (stL own other)).bl (⟨#[97]⟩ : ByteArray) (subW own val)) (⟨#[98]⟩ : ByteArray) (other + val), undo := u }) ⟨#[]⟩ 0 (msgS val gas data) w hs rfl (Nat.zero_le _) h0 hv rfl HKB [] gas
        (fun W hsW => ?_) (fun u W hsW hkW => done_stop B _ other val gas data W hsW hkW hok hkb hd hg)).mono ?_
      · have h := move_rich B (newS (stL own other)) (⟨#[97]⟩ : ByteArray) (⟨#[98]⟩ : ByteArray) val W hsW hok _ _ hka hkb (by decide) rfl (by rw [hba, Option.getD_some]; exact hl)
        rw [hba, hbb, Option.getD_some, Option.getD_some] at h
        exact h
      · rintro e w' ⟨rfl, hu, u, hs2⟩
        refine ⟨rfl, hu, _, hs2, rfl, ?_, ?_⟩
        · show ((setF (setF (newS (stL own other)).bl (⟨#[97]⟩ : ByteArray) (subW own val)) (⟨#[98]⟩ : ByteArray) (other + val)) (⟨#[97]⟩ : ByteArray)).getD 0 = _
          rw [setF_other _ _ (by decide), setF_same, Option.getD_some]
        · show ((setF (setF (newS (stL own other)).bl (⟨#[97]⟩ : ByteArray) (subW own val)) (⟨#[98]⟩ : ByteArray) (other + val)) (⟨#[98]⟩ : ByteArray)).getD 0 = _
          rw [setF_same, Option.getD_some]
end Go.Proofs.YtlelgbmbmajfmaaGreatDoor

namespace Go.Proofs.YtlelgbmbmajfmaaGreatDoor
open Go.RowKit Go.Shelf Go.Lib
attribute [local go_sem] Oper.semAt_some
theorem eq_done (a : Int) (b : ByteArray) (c : Int) (W : World) : (Op.equalIn 10000 28 (.agg #[.int .i64 a, .string b, .int .u64 c]) (.agg #[.int .i64 a, .string b, .int .u64 c])).run Tryz.prog W = .ok true W := by
  rw [show (10000 : Nat) = 9999 + 1 from rfl]
  go_simp
end Go.Proofs.YtlelgbmbmajfmaaGreatDoor

namespace Go.Proofs.YtlelgbmbmajfmaaGreatDoor
open Go.RowKit Go.Shelf Go.Lib
attribute [local go_sem] Oper.semAt_some
theorem eq_limbs {a b : Nat} (h : ∀ k, k < 4 → limb a k = limb b k) (W : World) : (Op.equalIn 10000 24 (.agg #[.int .u64 (limb a 0), .int .u64 (limb a 1), .int .u64 (limb a 2), .int .u64 (limb a 3)]) (.agg #[.int .u64 (limb b 0), .int .u64 (limb b 1), .int .u64 (limb b 2), .int .u64 (limb b 3)])).run Tryz.prog W = .ok true W := by
  rw [eq_word, h 0 (by decide), h 1 (by decide), h 2 (by decide), h 3 (by decide)]
  simp
theorem toList_backS (s : ByteArray) : (⟨s.data.toList.toArray⟩ : ByteArray) = s := by cases s; simp
set_option maxRecDepth 100000 in
set_option maxHeartbeats 12800000 in
theorem evmStops_any (own other val gas : Nat) (data : ByteArray) (w : World) (hv : val < 256 ^ 32) (hg : gas < 18446744073709551616) (hd : data.size ≤ 1048576) (hK : KecT w) : Calls Tryz.prog 8 #[.agg #[.int .u64 (limb own 0), .int .u64 (limb own 1), .int .u64 (limb own 2), .int .u64 (limb own 3)], .agg #[.int .u64 (limb other 0), .int .u64 (limb other 1), .int .u64 (limb other 2), .int .u64 (limb other 3)], .agg #[.int .u64 (limb val 0), .int .u64 (limb val 1), .int .u64 (limb val 2), .int .u64 (limb val 3)], .int .u64 gas, .string data] w fun e w' => e = .returned (.bool true) ∧ Below w.heap.size w w' := by
  have HKT := Lib.hid hK
  obtain ⟨RR, hR⟩ : ∃ R, kecB [128] = R := ⟨_, rfl⟩
  obtain ⟨HH, hH⟩ : ∃ H, kecB [] = H := ⟨_, rfl⟩
  have HEM := Lib.hid (show ∀ W, Calls Tryz.prog 38 #[] W fun e w' => e = .returned (.agg #[.int .u64 0, .int .u64 0, .int .u64 0, .int .u64 0, .int .u64 0, .string RR, .string HH]) ∧ Below W.heap.size W w' from fun W => by
    have h := emptyRef_any W
    unfold acctV at h
    simp only [limb_nought] at h
    rw [hR, hH] at h
    exact h)
  have HL := Lib.hid (show (stL own other).flatMap kcells = ([.string ⟨#[97]⟩, .bool true, .int .u64 (0 : Nat), .int .u64 (limb own 0), .int .u64 (limb own 1), .int .u64 (limb own 2), .int .u64 (limb own 3), .string RR, .string HH, .bool false, .string ⟨#[]⟩, .slice none 0 0, .string ⟨#[98]⟩, .bool true, .int .u64 (0 : Nat), .int .u64 (limb other 0), .int .u64 (limb other 1), .int .u64 (limb other 2), .int .u64 (limb other 3), .string RR, .string HH, .bool false, .string ⟨#[]⟩, .slice none 0 0] : List Value) from by
    rw [← hR, ← hH]
    rfl)
  obtain ⟨N, hN⟩ : ∃ N, data.size = N := ⟨_, rfl⟩
  obtain ⟨kk, hkk⟩ : ∃ k, min N 1000 = k := ⟨_, rfl⟩
  have hmin : min (N : Int) 1000 = (kk : Int) := by omega
  have g1 : (kk : Int) ≤ N := by omega
  have g2 : (0 : Int) ≤ kk := by omega
  have hkn : kk ≤ N := by omega
  have HD := Lib.hid (show ((data.extract 0 kk).data.toList).length ≤ 1099511627776 from by
    have h : ((data.extract 0 kk).data.toList).length = (data.extract 0 kk).size := rfl
    rw [h, ByteArray.size_extract]
    omega)
  have HVV := Lib.hid hv
  have HGG := Lib.hid hg
  obtain ⟨ls, hls⟩ : ∃ b, lessB own val = b := ⟨_, rfl⟩
  obtain ⟨w1, hw1⟩ : ∃ W, ((w.alloc (.cells #[.int .u64 (limb own 0), .int .u64 (limb own 1), .int .u64 (limb own 2), .int .u64 (limb own 3)] 24)).alloc (.cells #[.int .u64 (limb other 0), .int .u64 (limb other 1), .int .u64 (limb other 2), .int .u64 (limb other 3)] 24)).alloc (.cells #[.int .u64 (limb val 0), .int .u64 (limb val 1), .int .u64 (limb val 2), .int .u64 (limb val 3)] 24) = W := ⟨_, rfl⟩
  have e : ∀ (W : World) (o : Obj), (W.alloc o).heap.size = W.heap.size + 1 := fun W o => World.size_alloc _ _
  have hb1 : Below w.heap.size w w1 := by rw [← hw1]; exact (((Below.refl _ w).alloc (Nat.le_refl _) _).alloc (by rw [e]; omega) _).alloc (by rw [e, e]; omega) _
  have HO1 := Lib.hid (show W4 w1 w.heap.size 0 own from by rw [← hw1]; exact ((W4.new w own 24).after (laid1 _ _)).after (laid1 _ _))
  have HP1 := Lib.hid (show W4 w1 (w.heap.size + 1) 0 other from by
    have h := W4.new (w.alloc (.cells #[.int .u64 (limb own 0), .int .u64 (limb own 1), .int .u64 (limb own 2), .int .u64 (limb own 3)] 24)) other 24
    rw [e] at h
    rw [← hw1]; exact h.after (laid1 _ _))
  have HV1 := Lib.hid (show W4 w1 (w.heap.size + 2) 0 val from by
    have h := W4.new ((w.alloc (.cells #[.int .u64 (limb own 0), .int .u64 (limb own 1), .int .u64 (limb own 2), .int .u64 (limb own 3)] 24)).alloc (.cells #[.int .u64 (limb other 0), .int .u64 (limb other 1), .int .u64 (limb other 2), .int .u64 (limb other 3)] 24)) val 24
    rw [e, e] at h
    rw [← hw1]; exact h)
  have HB1 := Lib.hid hb1
  have HQ1 := Lib.hid (show w.heap.size + 3 ≤ w1.heap.size from by rw [← hw1, e, e, e]; omega)
  have HW1 := Lib.hid hw1
  have HLS := Lib.hid hls
  clear hK hR hH hb1 hw1 e hd hls hv hg hkk
  go_enter Tryz.func8, Tryz.ntmps8
  go_wp2_with (rw [HW1.out])
  refine (shown_any _ (HKT.out.below HB1.out)).mono ?_
  rintro e w2 ⟨rfl, hb⟩
  have HO2 := Lib.hid (HO1.out.after hb)
  have HP2 := Lib.hid (HP1.out.after hb)
  have HV2 := Lib.hid (HV1.out.after hb)
  have HB2 := Lib.hid (HB1.out.trans (hb.mono HB1.out.size))
  have HQ2 := Lib.hid (Nat.le_trans HQ1.out hb.size)
  clear hb
  go_wp2_with fail
  refine (HEM.out _).mono ?_
  rintro e b3 ⟨rfl, hb⟩
  have HN3 := Lib.hid (HasCells.new b3 [.string ⟨#[]⟩, .bool false, .int .u64 0, .int .u64 0, .int .u64 0, .int .u64 0, .int .u64 0, .string ⟨#[]⟩, .string ⟨#[]⟩, .bool false, .string ⟨#[]⟩, .slice none 0 0] 52)
  obtain ⟨w3, hd⟩ : ∃ W, (b3.alloc (.cells #[.string ⟨#[]⟩, .bool false, .int .u64 0, .int .u64 0, .int .u64 0, .int .u64 0, .int .u64 0, .string ⟨#[]⟩, .string ⟨#[]⟩, .bool false, .string ⟨#[]⟩, .slice none 0 0] 52)).setCells b3.heap.size 0 [.string ⟨#[97]⟩, .bool true, .int .u64 0, .int .u64 0, .int .u64 0, .int .u64 0, .int .u64 0, .string RR, .string HH, .bool false, .string ⟨#[]⟩, .slice none 0 0] = W := ⟨_, rfl⟩
  have HE3 := Lib.hid hd
  have HA3 := Lib.hid (show HasCells w3 b3.heap.size [.string ⟨#[97]⟩, .bool true, .int .u64 0, .int .u64 0, .int .u64 0, .int .u64 0, .int .u64 0, .string RR, .string HH, .bool false, .string ⟨#[]⟩, .slice none 0 0] 52 from by rw [← hd]; exact HN3.out.whole rfl)
  have hbd : Below b3.heap.size b3 w3 := by rw [← hd]; exact below_sets (Nat.le_refl _) _ _ _ ((Below.refl _ _).alloc (Nat.le_refl _) _)
  have HQ3 := Lib.hid (Nat.le_trans HQ2.out hb.size)
  have hb := hb.trans (hbd.mono hb.size)
  have HO3 := Lib.hid (HO2.out.after hb)
  have HP3 := Lib.hid (HP2.out.after hb)
  have HV3 := Lib.hid (HV2.out.after hb)
  have HB3 := Lib.hid (HB2.out.trans (hb.mono HB2.out.size))
  clear hb hd hbd
  go_wp2_with ((with_reducible refine store_gateK 52 ?_); refine wpList_store_mid rfl 52 _ _ rfl b3.heap.size 0 #[.string ⟨#[97]⟩, .bool true, .int .u64 0, .int .u64 0, .int .u64 0, .int .u64 0, .int .u64 0, .string RR, .string HH, .bool false, .string ⟨#[]⟩, .slice none 0 0] rfl rfl (HN3.out.there 0 _ (Nat.le_refl _)) infoKn (by simp [Value.oneCell']) ?_; rw [show ((#[.string ⟨#[97]⟩, .bool true, .int .u64 0, .int .u64 0, .int .u64 0, .int .u64 0, .int .u64 0, .string RR, .string HH, .bool false, .string ⟨#[]⟩, .slice none 0 0] : Array Value)).toList = ([.string ⟨#[97]⟩, .bool true, .int .u64 0, .int .u64 0, .int .u64 0, .int .u64 0, .int .u64 0, .string RR, .string HH, .bool false, .string ⟨#[]⟩, .slice none 0 0] : List Value) from rfl, HE3.out])
  refine (HEM.out _).mono ?_
  rintro e b4 ⟨rfl, hb⟩
  have HN4 := Lib.hid (HasCells.new b4 [.string ⟨#[]⟩, .bool false, .int .u64 0, .int .u64 0, .int .u64 0, .int .u64 0, .int .u64 0, .string ⟨#[]⟩, .string ⟨#[]⟩, .bool false, .string ⟨#[]⟩, .slice none 0 0] 52)
  obtain ⟨w4, hd⟩ : ∃ W, (b4.alloc (.cells #[.string ⟨#[]⟩, .bool false, .int .u64 0, .int .u64 0, .int .u64 0, .int .u64 0, .int .u64 0, .string ⟨#[]⟩, .string ⟨#[]⟩, .bool false, .string ⟨#[]⟩, .slice none 0 0] 52)).setCells b4.heap.size 0 [.string ⟨#[98]⟩, .bool true, .int .u64 0, .int .u64 0, .int .u64 0, .int .u64 0, .int .u64 0, .string RR, .string HH, .bool false, .string ⟨#[]⟩, .slice none 0 0] = W := ⟨_, rfl⟩
  have HE4 := Lib.hid hd
  have HB4x := Lib.hid (show HasCells w4 b4.heap.size [.string ⟨#[98]⟩, .bool true, .int .u64 0, .int .u64 0, .int .u64 0, .int .u64 0, .int .u64 0, .string RR, .string HH, .bool false, .string ⟨#[]⟩, .slice none 0 0] 52 from by rw [← hd]; exact HN4.out.whole rfl)
  have hbd : Below b4.heap.size b4 w4 := by rw [← hd]; exact below_sets (Nat.le_refl _) _ _ _ ((Below.refl _ _).alloc (Nat.le_refl _) _)
  have hlt34 : b3.heap.size < b4.heap.size := Nat.lt_of_lt_of_le HA3.out.lt hb.size
  have hb := hb.trans (hbd.mono hb.size)
  have HA4 := Lib.hid (HA3.out.after hb)
  have HO4 := Lib.hid (HO3.out.after hb)
  have HP4 := Lib.hid (HP3.out.after hb)
  have HV4 := Lib.hid (HV3.out.after hb)
  have HB4 := Lib.hid (HB3.out.trans (hb.mono HB3.out.size))
  clear hb hd hbd
  have hq3 := HQ3.out
  -- the balances are stored
  obtain ⟨w5, hw5⟩ : ∃ W, w4.setCells b3.heap.size 3 [.int .u64 (limb own 0), .int .u64 (limb own 1), .int .u64 (limb own 2), .int .u64 (limb own 3)] = W := ⟨_, rfl⟩
  have hot5 : ∀ q, q ≠ b3.heap.size → w5.heap[q]? = w4.heap[q]? := fun q hq => by rw [← hw5]; exact setCells_other hq _ _ _
  have HA5 := Lib.hid (show HasCells w5 b3.heap.size [.string ⟨#[97]⟩, .bool true, .int .u64 0, .int .u64 (limb own 0), .int .u64 (limb own 1), .int .u64 (limb own 2), .int .u64 (limb own 3), .string RR, .string HH, .bool false, .string ⟨#[]⟩, .slice none 0 0] 52 from by rw [← hw5]; exact HA4.out.sets [.int .u64 (limb own 0), .int .u64 (limb own 1), .int .u64 (limb own 2), .int .u64 (limb own 3)] 3)
  have HB5x := Lib.hid (HB4x.out.kept (hot5 _ (by omega)))
  have HO5 := Lib.hid (HO4.out.kept (hot5 _ (by omega)))
  have HP5 := Lib.hid (HP4.out.kept (hot5 _ (by omega)))
  have HV5 := Lib.hid (HV4.out.kept (hot5 _ (by omega)))
  have HB5 := Lib.hid (show Below w.heap.size w w5 from by rw [← hw5]; exact below_sets (by omega) _ _ _ HB4.out)
  have HW5 := Lib.hid hw5
  obtain ⟨w6, hw6⟩ : ∃ W, w5.setCells b4.heap.size 3 [.int .u64 (limb other 0), .int .u64 (limb other 1), .int .u64 (limb other 2), .int .u64 (limb other 3)] = W := ⟨_, rfl⟩
  have hot6 : ∀ q, q ≠ b4.heap.size → w6.heap[q]? = w5.heap[q]? := fun q hq => by rw [← hw6]; exact setCells_other hq _ _ _
  have HA6 := Lib.hid (HA5.out.kept (hot6 _ (by omega)))
  have HB6x := Lib.hid (show HasCells w6 b4.heap.size [.string ⟨#[98]⟩, .bool true, .int .u64 0, .int .u64 (limb other 0), .int .u64 (limb other 1), .int .u64 (limb other 2), .int .u64 (limb other 3), .string RR, .string HH, .bool false, .string ⟨#[]⟩, .slice none 0 0] 52 from by rw [← hw6]; exact HB5x.out.sets [.int .u64 (limb other 0), .int .u64 (limb other 1), .int .u64 (limb other 2), .int .u64 (limb other 3)] 3)
  have HO6 := Lib.hid (HO5.out.kept (hot6 _ (by omega)))
  have HP6 := Lib.hid (HP5.out.kept (hot6 _ (by omega)))
  have HV6 := Lib.hid (HV5.out.kept (hot6 _ (by omega)))
  have HB6 := Lib.hid (show Below w.heap.size w w6 from by rw [← hw6]; exact below_sets (by omega) _ _ _ HB5.out)
  have HW6 := Lib.hid hw6
  have hn := HasCells.new w6 ((stL own other).flatMap kcells) 52
  obtain ⟨w7, hw7⟩ : ∃ W, w6.alloc (.cells #[.string ⟨#[97]⟩, .bool true, .int .u64 0, .int .u64 (limb own 0), .int .u64 (limb own 1), .int .u64 (limb own 2), .int .u64 (limb own 3), .string RR, .string HH, .bool false, .string ⟨#[]⟩, .slice none 0 0, .string ⟨#[98]⟩, .bool true, .int .u64 0, .int .u64 (limb other 0), .int .u64 (limb other 1), .int .u64 (limb other 2), .int .u64 (limb other 3), .string RR, .string HH, .bool false, .string ⟨#[]⟩, .slice none 0 0] 52) = W := ⟨_, rfl⟩
  rw [HL.out] at hn
  have hn7 : HasCells w7 w6.heap.size ((stL own other).flatMap kcells) 52 := by rw [← hw7, HL.out]; exact hn
  have hb : Below w6.heap.size w6 w7 := by rw [← hw7]; exact (Below.refl _ _).alloc (Nat.le_refl _) _
  have HKN := Lib.hid (show KnAt w7 (.slice (some ⟨w6.heap.size, 0, none⟩) 2 2) (stL own other) from .inr ⟨_, 2, rfl, Nat.le_refl _, hn7.lt, hn7.range⟩)
  have HO7 := Lib.hid (HO6.out.after hb)
  have HP7 := Lib.hid (HP6.out.after hb)
  have HV7 := Lib.hid (HV6.out.after hb)
  have HB7 := Lib.hid (HB6.out.trans (hb.mono HB6.out.size))
  have HW7 := Lib.hid hw7
  clear hw5 hot5 hw6 hot6 hw7 hn hn7 hb
  go_wp2_with (first | ((with_reducible refine store_gateK 52 ?_); refine wpList_store_mid rfl 52 _ _ rfl b4.heap.size 0 #[.string ⟨#[98]⟩, .bool true, .int .u64 0, .int .u64 0, .int .u64 0, .int .u64 0, .int .u64 0, .string RR, .string HH, .bool false, .string ⟨#[]⟩, .slice none 0 0] rfl rfl (HN4.out.there 0 _ (Nat.le_refl _)) infoKn (by simp [Value.oneCell']) ?_; rw [show ((#[.string ⟨#[98]⟩, .bool true, .int .u64 0, .int .u64 0, .int .u64 0, .int .u64 0, .int .u64 0, .string RR, .string HH, .bool false, .string ⟨#[]⟩, .slice none 0 0] : Array Value)).toList = ([.string ⟨#[98]⟩, .bool true, .int .u64 0, .int .u64 0, .int .u64 0, .int .u64 0, .int .u64 0, .string RR, .string HH, .bool false, .string ⟨#[]⟩, .slice none 0 0] : List Value) from rfl, HE4.out]) | ((with_reducible refine load_gateK 24 ?_); first | refine wpList_load_midK rfl 24 _ rfl w.heap.size 0 rfl [.int .u64 (limb own 0), .int .u64 (limb own 1), .int .u64 (limb own 2), .int .u64 (limb own 3)] _ HO4.out Tryz.underlying24 rfl infoW ?_ | refine wpList_load_midK rfl 24 _ rfl (w.heap.size + 1) 0 rfl [.int .u64 (limb other 0), .int .u64 (limb other 1), .int .u64 (limb other 2), .int .u64 (limb other 3)] _ HP5.out Tryz.underlying24 rfl infoW ?_) | ((with_reducible refine store_gateK 24 ?_); first | (refine wpList_store_mid rfl 24 _ _ rfl b3.heap.size 3 #[.int .u64 (limb own 0), .int .u64 (limb own 1), .int .u64 (limb own 2), .int .u64 (limb own 3)] rfl rfl (HA4.out.there 3 _ (by show 3 + 4 ≤ 12; omega)) infoW (oneW own) ?_; rw [show ((#[.int .u64 (limb own 0), .int .u64 (limb own 1), .int .u64 (limb own 2), .int .u64 (limb own 3)] : Array Value)).toList = ([.int .u64 (limb own 0), .int .u64 (limb own 1), .int .u64 (limb own 2), .int .u64 (limb own 3)] : List Value) from rfl, HW5.out]) | (refine wpList_store_mid rfl 24 _ _ rfl b4.heap.size 3 #[.int .u64 (limb other 0), .int .u64 (limb other 1), .int .u64 (limb other 2), .int .u64 (limb other 3)] rfl rfl (HB5x.out.there 3 _ (by show 3 + 4 ≤ 12; omega)) infoW (oneW other) ?_; rw [show ((#[.int .u64 (limb other 0), .int .u64 (limb other 1), .int .u64 (limb other 2), .int .u64 (limb other 3)] : Array Value)).toList = ([.int .u64 (limb other 0), .int .u64 (limb other 1), .int .u64 (limb other 2), .int .u64 (limb other 3)] : List Value) from rfl, HW6.out])) | ((with_reducible refine load_gateK 52 ?_); first | refine wpList_load_midK rfl 52 _ rfl b3.heap.size 0 rfl [.string ⟨#[97]⟩, .bool true, .int .u64 0, .int .u64 (limb own 0), .int .u64 (limb own 1), .int .u64 (limb own 2), .int .u64 (limb own 3), .string RR, .string HH, .bool false, .string ⟨#[]⟩, .slice none 0 0] _ HA6.out.range Tryz.underlying52 rfl infoKn ?_ | refine wpList_load_midK rfl 52 _ rfl b4.heap.size 0 rfl [.string ⟨#[98]⟩, .bool true, .int .u64 0, .int .u64 (limb other 0), .int .u64 (limb other 1), .int .u64 (limb other 2), .int .u64 (limb other 3), .string RR, .string HH, .bool false, .string ⟨#[]⟩, .slice none 0 0] _ HB6x.out.range Tryz.underlying52 rfl infoKn ?_) | rw [HW7.out])
  refine (new_any (.slice (some ⟨w6.heap.size, 0, none⟩) 2 2) (stL own other) _ HKN.out (fun k hk => by
    rcases List.mem_cons.1 hk with rfl | hk
    · exact stK_ok _ _
    · rw [List.mem_singleton] at hk; subst hk; exact stK_ok _ _) (Nat.le_of_ble_eq_true rfl)).mono ?_
  rintro e w8 ⟨rfl, hs, hb⟩
  have HO8 := Lib.hid (HO7.out.after hb)
  have HP8 := Lib.hid (HP7.out.after hb)
  have HV8 := Lib.hid (HV7.out.after hb)
  have HB8 := Lib.hid (HB7.out.trans (hb.mono HB7.out.size))
  have HS8 := Lib.hid hs
  clear hs hb
  have HBQ := Lib.hid (show w.heap.size + 3 ≤ w7.heap.size from Nat.lt_of_le_of_lt (Nat.le_refl _) (World.block_lt_of_cell? w7 ⟨w.heap.size + 2, 0, none⟩ (HV7.out 0 _ rfl)))
  obtain ⟨hw, hhw⟩ : ∃ h, (if ls then 2 else 0 : Nat) = h := ⟨_, rfl⟩
  have HHW := Lib.hid hhw
  obtain ⟨xa, hxa⟩ : ∃ x, stX own val = x := ⟨_, rfl⟩
  obtain ⟨yb, hyb⟩ : ∃ y, stY own other val = y := ⟨_, rfl⟩
  have HXA := Lib.hid hxa
  have HYB := Lib.hid hyb
  have HCL := Lib.hid (show ∀ W, StAt w7.heap.size W (newS (stL own other)) → Below w.heap.size w W → Calls Tryz.prog 32 #[.pointer (some ⟨w7.heap.size + 6, 0, none⟩), .agg #[.string ⟨#[]⟩, .int .u64 0], .agg #[.string ⟨#[97]⟩, .string ⟨#[98]⟩, .string ⟨#[98]⟩, .int .u64 (limb val 0), .int .u64 (limb val 1), .int .u64 (limb val 2), .int .u64 (limb val 3), .string (data.extract 0 kk), .int .u64 gas, .bool false, .int .i64 0, .bool false]] W fun e w' => e = .returned (.agg #[.int .i64 hw, .string ⟨#[]⟩, .int .u64 gas]) ∧ StUp w7.heap.size W w' ∧ ∃ S', StAt w7.heap.size w' S' ∧ S'.kn = (newS (stL own other)).kn ∧ (S'.bl ⟨#[97]⟩).getD 0 = xa ∧ (S'.bl ⟨#[98]⟩).getD 0 = yb from fun W hs hbw => by
    have h := call_stops w7.heap.size own other val gas ((data.extract 0 kk).data.toList) W hs (fun W' hb' => HKT.out.below (hbw.trans (hb'.mono (by have := HBQ.out; omega)))) (by have := hs.lt; omega) HD.out HGG.out HVV.out
    rw [toList_backS, HLS.out, HHW.out, HXA.out, HYB.out] at h
    exact h)
  have HBL := Lib.hid (show ∀ (S' : StE) (a : ByteArray) (k : KnE) (v : Nat) W, StAt w7.heap.size W S' → S'.kn = (newS (stL own other)).kn → (newS (stL own other)).kn a = some k → (S'.bl a).getD 0 = v → Calls Tryz.prog 39 #[.pointer (some ⟨w7.heap.size + 6, 0, none⟩), .string a] W fun e w' => e = .returned (.tuple #[.agg #[.int .u64 (limb v 0), .int .u64 (limb v 1), .int .u64 (limb v 2), .int .u64 (limb v 3)], .int .i64 0]) ∧ Below W.heap.size W w' from fun S' a k v W hs hkn hk hv => by
    have h := balance_any w7.heap.size S' a W hs (fun k h => st_ok own other k a (by rw [← hkn]; exact h))
    have e1 : balN S' a = v := by unfold balN; rw [hkn, hk]; exact hv
    have e2 : findN S' a = 0 := by unfold findN; rw [hkn, hk]
    rw [e1, e2] at h
    exact h)
  clear hhw hxa hyb
  go_wp2_with fail
  refine wp_region_held_drew (S := (fun W => W4 W (w.heap.size + 2) 0 val)) (by kernel_rfl) (HV8.out) (fun hHeld => ?_)
  refine hT 0 ?_
  refine hT 1 ?_
  refine hU 2 ?_ (hy := fun w0 hSw => run_loadW rfl rfl hSw)
  refine hT 3 ?_
  refine hT 4 ?_
  refine hT 5 ?_
  refine hT 6 ?_
  refine hT 7 ?_
  refine hT 8 ?_
  refine hT 9 ?_
  refine wpAnyH_ready (rs := [10, 11]) (by kernel_rfl) (by simp) ?_
  refine AllReadyH.cons rfl (fun K hK => ?_) (AllReadyH.cons rfl (fun K hK => ?_) AllReadyH.nil)
  · go_simp
    go_at_call 32
    refine (HCL.out _ (HS8.out.after ((Below.refl _ w8).drew)) (HB8.out.trans (((Below.refl _ w8).drew).mono HB8.out.size))).mono ?_
    rintro e w9 ⟨rfl, hu, S', hs', hkn, hxa, hyb⟩
    have hbq := HBQ.out
    have HO9 := Lib.hid (HO8.out.kept (hu.below.block _ (by omega)))
    have HP9 := Lib.hid (HP8.out.kept (hu.below.block _ (by omega)))
    have HV9 := Lib.hid (HV8.out.kept (hu.below.block _ (by omega)))
    have HB9 := Lib.hid (HB8.out.trans ((Below.refl _ w8).drew.trans (hu.below.mono (show w.heap.size ≤ w7.heap.size by omega))))
    have HS9 := Lib.hid hs'
    have HKN2 := Lib.hid hkn
    have HX2 := Lib.hid hxa
    have HY2 := Lib.hid hyb
    clear hu hs' hkn hxa hyb hbq
    refine hK.out _ _ HV9.out (fun hHeld => ?_)
    clear hK K
    try simp only [Act.put, zq]
    refine wpAnyH_ready (rs := [11]) (by kernel_rfl) (by simp) ?_
    refine AllReadyH.cons rfl (fun K hK => ?_) AllReadyH.nil
    go_simp
    obtain ⟨w10, hy⟩ : ∃ W, w9.alloc (.cells #[.int .i64 0, .string ⟨#[]⟩, .int .u64 0] 28) = W := ⟨_, rfl⟩
    have hz7 : HasCells w10 w9.heap.size [.int .i64 0, .string ⟨#[]⟩, .int .u64 0] 28 := by rw [← hy]; exact HasCells.new w9 _ _
    rw [hy]
    have hb : Below w9.heap.size w9 w10 := by rw [← hy]; exact (Below.refl _ _).alloc (Nat.le_refl _) _
    have HO10 := Lib.hid (HO9.out.after hb)
    have HP10 := Lib.hid (HP9.out.after hb)
    have HV10 := Lib.hid (HV9.out.after hb)
    have HS10 := Lib.hid (HS9.out.after hb)
    have HB10 := Lib.hid (HB9.out.trans (hb.mono HB9.out.size))
    have H710 := Lib.hid hz7
    have HZ7 := Lib.hid (show w7.heap.size + 6 < w9.heap.size from HS9.out.lt)
    clear hz7 hy hb
    refine hK.out _ _ HV10.out (fun hHeld => ?_)
    clear hK K
    try simp only [Act.put, zq]
    refine wpAnyH_ready (rs := [12]) (by kernel_rfl) (by simp) ?_
    refine AllReadyH.cons rfl (fun K hK => ?_) AllReadyH.nil
    refine step_storeK (by rfl) 28 _ _ rfl (w9.heap.size) 0 #[.int .i64 hw, .string ⟨#[]⟩, .int .u64 gas] rfl rfl (H710.out.there 0 _ (Nat.le_refl _)) infoDone (three_one _ _ _) ?_
    have ht7 := H710.out.whole (vs := [.int .i64 hw, .string ⟨#[]⟩, .int .u64 gas]) rfl
    obtain ⟨wz, hy⟩ : ∃ W, w10.setCells (w9.heap.size) 0 [.int .i64 hw, .string ⟨#[]⟩, .int .u64 gas] = W := ⟨_, rfl⟩
    rw [hy] at ht7
    rw [show ((#[.int .i64 hw, .string ⟨#[]⟩, .int .u64 gas] : Array Value)).toList = ([.int .i64 hw, .string ⟨#[]⟩, .int .u64 gas] : List Value) from rfl, hy]
    have hot : ∀ q, q ≠ (w9.heap.size) → wz.heap[q]? = w10.heap[q]? := fun q hq => by rw [← hy]; exact setCells_other hq _ _ _
    have hz7 := HZ7.out
    have hbq := HBQ.out
    have HOz := Lib.hid (HO10.out.kept (hot _ (by omega)))
    have HPz := Lib.hid (HP10.out.kept (hot _ (by omega)))
    have HVz := Lib.hid (HV10.out.kept (hot _ (by omega)))
    have HSz := Lib.hid (HS10.out.kept fun k _ h => hot k (by omega))
    have HBz := Lib.hid (show Below w.heap.size w wz from by rw [← hy]; exact below_sets (by omega) _ _ _ HB10.out)
    have H7z := Lib.hid ht7
    clear ht7 hot hy hz7 hbq
    refine hK.out _ _ HVz.out (fun hHeld => ?_)
    clear hK K
    try simp only [Act.put, zq]
    refine wpAnyH_done (by kernel_rfl) ?_ 0
    clear hHeld
    go_wp2_with fail
    refine (HBL.out S' _ _ xa _ HSz.out HKN2.out (st_kn own other).1 HX2.out).mono ?_
    rintro e ba ⟨rfl, hb⟩
    obtain ⟨wa, hd, ht, hbd⟩ := word1 ba xa
    have HDa := Lib.hid hd
    have HNa := Lib.hid (HasCells.new ba [.int .u64 0, .int .u64 0, .int .u64 0, .int .u64 0] 24)
    have HTa := Lib.hid ht
    have hb := hb.trans (hbd.mono hb.size)
    have HOa := Lib.hid (HOz.out.after hb)
    have HPa := Lib.hid (HPz.out.after hb)
    have HVa := Lib.hid (HVz.out.after hb)
    have HSa := Lib.hid (HSz.out.after hb)
    have HBa := Lib.hid (HBz.out.trans (hb.mono HBz.out.size))
    have H7a := Lib.hid (H7z.out.after hb)
    clear hd ht hb hbd
    go_wp2_with ((with_reducible refine store_gateK 24 ?_); refine wpList_store_mid rfl 24 _ _ rfl ba.heap.size 0 #[.int .u64 (limb xa 0), .int .u64 (limb xa 1), .int .u64 (limb xa 2), .int .u64 (limb xa 3)] rfl rfl (HNa.out.there 0 _ (Nat.le_refl _)) infoW (oneW xa) ?_; rw [show ((#[.int .u64 (limb xa 0), .int .u64 (limb xa 1), .int .u64 (limb xa 2), .int .u64 (limb xa 3)] : Array Value)).toList = ([.int .u64 (limb xa 0), .int .u64 (limb xa 1), .int .u64 (limb xa 2), .int .u64 (limb xa 3)] : List Value) from rfl, HDa.out])
    refine (HBL.out S' _ _ yb _ HSa.out HKN2.out (st_kn own other).2 HY2.out).mono ?_
    rintro e bb ⟨rfl, hb⟩
    obtain ⟨wb, hd, ht, hbd⟩ := word1 bb yb
    have HDb := Lib.hid hd
    have HNb := Lib.hid (HasCells.new bb [.int .u64 0, .int .u64 0, .int .u64 0, .int .u64 0] 24)
    have HTb := Lib.hid ht
    have hb := hb.trans (hbd.mono hb.size)
    have HOb := Lib.hid (HOa.out.after hb)
    have HPb := Lib.hid (HPa.out.after hb)
    have HVb := Lib.hid (HVa.out.after hb)
    have HBb := Lib.hid (HBa.out.trans (hb.mono HBa.out.size))
    have H7b := Lib.hid (H7a.out.after hb)
    have HTab := Lib.hid (HTa.out.after hb)
    clear hd ht hb hbd
    have HLL := Lib.hid (fun W => less_any own val W)
    rw [HLS.out] at HLL
    go_wp2_with (first | ((with_reducible refine store_gateK 24 ?_); refine wpList_store_mid rfl 24 _ _ rfl bb.heap.size 0 #[.int .u64 (limb yb 0), .int .u64 (limb yb 1), .int .u64 (limb yb 2), .int .u64 (limb yb 3)] rfl rfl (HNb.out.there 0 _ (Nat.le_refl _)) infoW (oneW yb) ?_; rw [show ((#[.int .u64 (limb yb 0), .int .u64 (limb yb 1), .int .u64 (limb yb 2), .int .u64 (limb yb 3)] : Array Value)).toList = ([.int .u64 (limb yb 0), .int .u64 (limb yb 1), .int .u64 (limb yb 2), .int .u64 (limb yb 3)] : List Value) from rfl, HDb.out]) | ((with_reducible refine load_gateK 24 ?_); first | refine wpList_load_midK rfl 24 _ rfl w.heap.size 0 rfl [.int .u64 (limb own 0), .int .u64 (limb own 1), .int .u64 (limb own 2), .int .u64 (limb own 3)] _ HOb.out Tryz.underlying24 rfl infoW ?_ | refine wpList_load_midK rfl 24 _ rfl (w.heap.size + 2) 0 rfl [.int .u64 (limb val 0), .int .u64 (limb val 1), .int .u64 (limb val 2), .int .u64 (limb val 3)] _ HVb.out Tryz.underlying24 rfl infoW ?_))
    refine (show Calls _ _ _ _ _ from HLL.out _).mono ?_
    rintro e wc ⟨rfl, hb⟩
    have HOc := Lib.hid (HOb.out.after hb)
    have HPc := Lib.hid (HPb.out.after hb)
    have HVc := Lib.hid (HVb.out.after hb)
    have HBc := Lib.hid (HBb.out.trans (hb.mono HBb.out.size))
    have H7c := Lib.hid (H7b.out.after hb)
    have HTac := Lib.hid (HTab.out.after hb)
    have HTbc := Lib.hid (HTb.out.after hb)
    clear hb
    cases ls with
    | true =>
      obtain rfl : 2 = hw := HHW.out
      have ex : own = xa := by rw [← HXA.out]; unfold stX; rw [HLS.out]; rfl
      have ey : other = yb := by rw [← HYB.out]; unfold stY; rw [HLS.out]; rfl
      have hq1 := eq_done 2 ⟨#[]⟩ gas
      have hq2 : ∀ W, (Op.equalIn 10000 24 (.agg #[.int .u64 (limb xa 0), .int .u64 (limb xa 1), .int .u64 (limb xa 2), .int .u64 (limb xa 3)]) (.agg #[.int .u64 (limb own 0), .int .u64 (limb own 1), .int .u64 (limb own 2), .int .u64 (limb own 3)])).run Tryz.prog W = .ok true W := eq_limbs (fun k _ => by rw [ex])
      have hq3 : ∀ W, (Op.equalIn 10000 24 (.agg #[.int .u64 (limb yb 0), .int .u64 (limb yb 1), .int .u64 (limb yb 2), .int .u64 (limb yb 3)]) (.agg #[.int .u64 (limb other 0), .int .u64 (limb other 1), .int .u64 (limb other 2), .int .u64 (limb other 3)])).run Tryz.prog W = .ok true W := eq_limbs (fun k _ => by rw [ey])
      clear ex ey
      go_wp2_with (first | ((with_reducible refine load_gateK 28 ?_); refine wpList_load_midK rfl 28 _ rfl (w9.heap.size) 0 rfl [.int .i64 2, .string ⟨#[]⟩, .int .u64 gas] _ H7c.out.range Tryz.underlying28 rfl infoDone ?_) | ((with_reducible refine load_gateK 24 ?_); first | refine wpList_load_midK rfl 24 _ rfl w.heap.size 0 rfl [.int .u64 (limb own 0), .int .u64 (limb own 1), .int .u64 (limb own 2), .int .u64 (limb own 3)] _ HOc.out Tryz.underlying24 rfl infoW ?_ | refine wpList_load_midK rfl 24 _ rfl (w.heap.size + 1) 0 rfl [.int .u64 (limb other 0), .int .u64 (limb other 1), .int .u64 (limb other 2), .int .u64 (limb other 3)] _ HPc.out Tryz.underlying24 rfl infoW ?_ | refine wpList_load_midK rfl 24 _ rfl ba.heap.size 0 rfl [.int .u64 (limb xa 0), .int .u64 (limb xa 1), .int .u64 (limb xa 2), .int .u64 (limb xa 3)] _ HTac.out.range Tryz.underlying24 rfl infoW ?_ | refine wpList_load_midK rfl 24 _ rfl bb.heap.size 0 rfl [.int .u64 (limb yb 0), .int .u64 (limb yb 1), .int .u64 (limb yb 2), .int .u64 (limb yb 3)] _ HTbc.out.range Tryz.underlying24 rfl infoW ?_))
      go_ret
      exact ⟨rfl, HBc.out⟩
    | false =>
      obtain rfl : 0 = hw := HHW.out
      have ex : ∀ k, k < 4 → limb xa k = limb (subW own val) k := fun k hk => by
        rw [← HXA.out]
        unfold stX
        rw [HLS.out, if_neg (show ¬ (false = true) by decide)]
        by_cases h0 : val = 0
        · rw [if_pos h0, h0, subW_zero own hk]
        · rw [if_neg h0]
      have ey : yb = other + val := by rw [← HYB.out]; unfold stY; rw [HLS.out]; rfl
      obtain ⟨sw, hsw⟩ : ∃ s, subW own val = s := ⟨_, rfl⟩
      obtain ⟨aw, haw⟩ : ∃ s, other + val = s := ⟨_, rfl⟩
      rw [hsw] at ex
      rw [haw] at ey
      have HSU := Lib.hid (fun W => sub_any own val W)
      have HAD := Lib.hid (fun W => add_any other val W)
      rw [hsw] at HSU
      rw [haw] at HAD
      have hq1 := eq_done 0 ⟨#[]⟩ gas
      have hq2 : ∀ W, (Op.equalIn 10000 24 (.agg #[.int .u64 (limb xa 0), .int .u64 (limb xa 1), .int .u64 (limb xa 2), .int .u64 (limb xa 3)]) (.agg #[.int .u64 (limb sw 0), .int .u64 (limb sw 1), .int .u64 (limb sw 2), .int .u64 (limb sw 3)])).run Tryz.prog W = .ok true W := eq_limbs ex
      have hq3 : ∀ W, (Op.equalIn 10000 24 (.agg #[.int .u64 (limb yb 0), .int .u64 (limb yb 1), .int .u64 (limb yb 2), .int .u64 (limb yb 3)]) (.agg #[.int .u64 (limb aw 0), .int .u64 (limb aw 1), .int .u64 (limb aw 2), .int .u64 (limb aw 3)])).run Tryz.prog W = .ok true W := eq_limbs (fun k _ => by rw [ey])
      clear ex ey hsw haw
      go_wp2_with fail
      refine wp_region_held_drew (S := (fun W => W.rangeAt (w9.heap.size) 0 [.int .i64 0, .string ⟨#[]⟩, .int .u64 gas] ∧ W4 W ba.heap.size 0 xa ∧ W4 W bb.heap.size 0 yb ∧ W4 W w.heap.size 0 own ∧ W4 W (w.heap.size + 1) 0 other ∧ W4 W (w.heap.size + 2) 0 val)) (by kernel_rfl) (⟨H7c.out.range, HTac.out.range, HTbc.out.range, HOc.out, HPc.out, HVc.out⟩) (fun hHeld => ?_)
      refine hT 0 ?_
      refine hT 1 ?_
      refine hU 2 ?_ (hy := fun w0 hSw => run_loadR 28 rfl rfl hSw.1 Tryz.underlying28 rfl infoDone)
      refine hT 3 ?_
      refine hT 4 ?_
      refine hT 5 ?_
      refine hT 6 ?_
      refine hT 7 ?_
      refine hU 8 ?_ (hy := fun w0 hSw => run_loadW rfl rfl hSw.2.1)
      refine hU 9 ?_ (hy := fun w0 hSw => run_loadW rfl rfl hSw.2.2.2.1)
      refine hU 10 ?_ (hy := fun w0 hSw => run_loadW rfl rfl hSw.2.2.2.2.2)
      refine wpAnyH_ready (rs := [11]) (by kernel_rfl) (by simp) ?_
      refine AllReadyH.cons rfl (fun K hK => ?_) AllReadyH.nil
      go_simp
      go_at_call 20
      refine (show Calls _ _ _ _ _ from HSU.out _).mono ?_
      rintro e wd ⟨rfl, hb⟩
      have hb := (Below.refl _ wc).drew.trans hb
      have H7d := Lib.hid (H7c.out.after hb)
      have HTad := Lib.hid (HTac.out.after hb)
      have HTbd := Lib.hid (HTbc.out.after hb)
      have HOd := Lib.hid (HOc.out.after hb)
      have HPd := Lib.hid (HPc.out.after hb)
      have HVd := Lib.hid (HVc.out.after hb)
      have HBd := Lib.hid (HBc.out.trans (hb.mono HBc.out.size))
      clear hb
      refine hK.out _ _ (⟨H7d.out.range, HTad.out.range, HTbd.out.range, HOd.out, HPd.out, HVd.out⟩) (fun hHeld => ?_)
      clear hK K
      try simp only [Act.put, zq]
      refine hT 12 ?_
      refine hT 13 ?_
      refine hT 14 ?_
      refine hU 15 ?_ (hy := fun w0 hSw => run_loadW rfl rfl hSw.2.2.1)
      refine hU 16 ?_ (hy := fun w0 hSw => run_loadW rfl rfl hSw.2.2.2.2.1)
      refine hU 17 ?_ (hy := fun w0 hSw => run_loadW rfl rfl hSw.2.2.2.2.2)
      refine wpAnyH_ready (rs := [18]) (by kernel_rfl) (by simp) ?_
      refine AllReadyH.cons rfl (fun K hK => ?_) AllReadyH.nil
      go_simp
      go_at_call 18
      refine (show Calls _ _ _ _ _ from HAD.out _).mono ?_
      rintro e we ⟨rfl, hb⟩
      have H7e := Lib.hid (H7d.out.after hb)
      have HTae := Lib.hid (HTad.out.after hb)
      have HTbe := Lib.hid (HTbd.out.after hb)
      have HOe := Lib.hid (HOd.out.after hb)
      have HPe := Lib.hid (HPd.out.after hb)
      have HVe := Lib.hid (HVd.out.after hb)
      have HBe := Lib.hid (HBd.out.trans (hb.mono HBd.out.size))
      clear hb
      refine hK.out _ _ (⟨H7e.out.range, HTae.out.range, HTbe.out.range, HOe.out, HPe.out, HVe.out⟩) (fun hHeld => ?_)
      clear hK K
      try simp only [Act.put, zq]
      refine hT 19 ?_
      refine hT 20 ?_
      refine hT 21 ?_
      refine wpAnyH_done (by kernel_rfl) ?_ 0
      go_wp2
      go_ret
      exact ⟨rfl, HBe.out⟩
  · go_simp
    obtain ⟨w9, hy⟩ : ∃ W, (w8.alloc (.cells #[.int .i64 0, .string ⟨#[]⟩, .int .u64 0] 28)).drew = W := ⟨_, rfl⟩
    have hz7 : HasCells w9 w8.heap.size [.int .i64 0, .string ⟨#[]⟩, .int .u64 0] 28 := by rw [← hy]; exact HasCells.new w8 _ _
    rw [hy]
    have hb : Below w8.heap.size w8 w9 := by rw [← hy]; exact ((Below.refl _ _).alloc (Nat.le_refl _) _).drew
    have HO9 := Lib.hid (HO8.out.after hb)
    have HP9 := Lib.hid (HP8.out.after hb)
    have HV9 := Lib.hid (HV8.out.after hb)
    have HS9 := Lib.hid (HS8.out.after hb)
    have HB9 := Lib.hid (HB8.out.trans (hb.mono HB8.out.size))
    have H79 := Lib.hid hz7
    have HZ7 := Lib.hid (show w7.heap.size + 6 < w8.heap.size from HS8.out.lt)
    clear hz7 hy hb
    refine hK.out _ _ HV9.out (fun hHeld => ?_)
    clear hK K
    try simp only [Act.put, zq]
    refine wpAnyH_ready (rs := [10]) (by kernel_rfl) (by simp) ?_
    refine AllReadyH.cons rfl (fun K hK => ?_) AllReadyH.nil
    go_simp
    go_at_call 32
    refine (HCL.out _ (HS9.out) (HB9.out)).mono ?_
    rintro e w10 ⟨rfl, hu, S', hs', hkn, hxa, hyb⟩
    have hbq := HBQ.out
    have HO10 := Lib.hid (HO9.out.kept (hu.below.block _ (by omega)))
    have HP10 := Lib.hid (HP9.out.kept (hu.below.block _ (by omega)))
    have HV10 := Lib.hid (HV9.out.kept (hu.below.block _ (by omega)))
    have HB10 := Lib.hid (HB9.out.trans (hu.below.mono (show w.heap.size ≤ w7.heap.size by omega)))
    have HS10 := Lib.hid hs'
    have HKN2 := Lib.hid hkn
    have HX2 := Lib.hid hxa
    have HY2 := Lib.hid hyb
    have H710 := Lib.hid (H79.out.kept (hu.rest _ HZ7.out H79.out.lt))
    clear hu hs' hkn hxa hyb hbq
    refine hK.out _ _ HV10.out (fun hHeld => ?_)
    clear hK K
    try simp only [Act.put, zq]
    refine wpAnyH_ready (rs := [12]) (by kernel_rfl) (by simp) ?_
    refine AllReadyH.cons rfl (fun K hK => ?_) AllReadyH.nil
    refine step_storeK (by rfl) 28 _ _ rfl (w8.heap.size) 0 #[.int .i64 hw, .string ⟨#[]⟩, .int .u64 gas] rfl rfl (H710.out.there 0 _ (Nat.le_refl _)) infoDone (three_one _ _ _) ?_
    have ht7 := H710.out.whole (vs := [.int .i64 hw, .string ⟨#[]⟩, .int .u64 gas]) rfl
    obtain ⟨wz, hy⟩ : ∃ W, w10.setCells (w8.heap.size) 0 [.int .i64 hw, .string ⟨#[]⟩, .int .u64 gas] = W := ⟨_, rfl⟩
    rw [hy] at ht7
    rw [show ((#[.int .i64 hw, .string ⟨#[]⟩, .int .u64 gas] : Array Value)).toList = ([.int .i64 hw, .string ⟨#[]⟩, .int .u64 gas] : List Value) from rfl, hy]
    have hot : ∀ q, q ≠ (w8.heap.size) → wz.heap[q]? = w10.heap[q]? := fun q hq => by rw [← hy]; exact setCells_other hq _ _ _
    have hz7 := HZ7.out
    have hbq := HBQ.out
    have HOz := Lib.hid (HO10.out.kept (hot _ (by omega)))
    have HPz := Lib.hid (HP10.out.kept (hot _ (by omega)))
    have HVz := Lib.hid (HV10.out.kept (hot _ (by omega)))
    have HSz := Lib.hid (HS10.out.kept fun k _ h => hot k (by omega))
    have HBz := Lib.hid (show Below w.heap.size w wz from by rw [← hy]; exact below_sets (by omega) _ _ _ HB10.out)
    have H7z := Lib.hid ht7
    clear ht7 hot hy hz7 hbq
    refine hK.out _ _ HVz.out (fun hHeld => ?_)
    clear hK K
    try simp only [Act.put, zq]
    refine wpAnyH_done (by kernel_rfl) ?_ 0
    clear hHeld
    go_wp2_with fail
    refine (HBL.out S' _ _ xa _ HSz.out HKN2.out (st_kn own other).1 HX2.out).mono ?_
    rintro e ba ⟨rfl, hb⟩
    obtain ⟨wa, hd, ht, hbd⟩ := word1 ba xa
    have HDa := Lib.hid hd
    have HNa := Lib.hid (HasCells.new ba [.int .u64 0, .int .u64 0, .int .u64 0, .int .u64 0] 24)
    have HTa := Lib.hid ht
    have hb := hb.trans (hbd.mono hb.size)
    have HOa := Lib.hid (HOz.out.after hb)
    have HPa := Lib.hid (HPz.out.after hb)
    have HVa := Lib.hid (HVz.out.after hb)
    have HSa := Lib.hid (HSz.out.after hb)
    have HBa := Lib.hid (HBz.out.trans (hb.mono HBz.out.size))
    have H7a := Lib.hid (H7z.out.after hb)
    clear hd ht hb hbd
    go_wp2_with ((with_reducible refine store_gateK 24 ?_); refine wpList_store_mid rfl 24 _ _ rfl ba.heap.size 0 #[.int .u64 (limb xa 0), .int .u64 (limb xa 1), .int .u64 (limb xa 2), .int .u64 (limb xa 3)] rfl rfl (HNa.out.there 0 _ (Nat.le_refl _)) infoW (oneW xa) ?_; rw [show ((#[.int .u64 (limb xa 0), .int .u64 (limb xa 1), .int .u64 (limb xa 2), .int .u64 (limb xa 3)] : Array Value)).toList = ([.int .u64 (limb xa 0), .int .u64 (limb xa 1), .int .u64 (limb xa 2), .int .u64 (limb xa 3)] : List Value) from rfl, HDa.out])
    refine (HBL.out S' _ _ yb _ HSa.out HKN2.out (st_kn own other).2 HY2.out).mono ?_
    rintro e bb ⟨rfl, hb⟩
    obtain ⟨wb, hd, ht, hbd⟩ := word1 bb yb
    have HDb := Lib.hid hd
    have HNb := Lib.hid (HasCells.new bb [.int .u64 0, .int .u64 0, .int .u64 0, .int .u64 0] 24)
    have HTb := Lib.hid ht
    have hb := hb.trans (hbd.mono hb.size)
    have HOb := Lib.hid (HOa.out.after hb)
    have HPb := Lib.hid (HPa.out.after hb)
    have HVb := Lib.hid (HVa.out.after hb)
    have HBb := Lib.hid (HBa.out.trans (hb.mono HBa.out.size))
    have H7b := Lib.hid (H7a.out.after hb)
    have HTab := Lib.hid (HTa.out.after hb)
    clear hd ht hb hbd
    have HLL := Lib.hid (fun W => less_any own val W)
    rw [HLS.out] at HLL
    go_wp2_with (first | ((with_reducible refine store_gateK 24 ?_); refine wpList_store_mid rfl 24 _ _ rfl bb.heap.size 0 #[.int .u64 (limb yb 0), .int .u64 (limb yb 1), .int .u64 (limb yb 2), .int .u64 (limb yb 3)] rfl rfl (HNb.out.there 0 _ (Nat.le_refl _)) infoW (oneW yb) ?_; rw [show ((#[.int .u64 (limb yb 0), .int .u64 (limb yb 1), .int .u64 (limb yb 2), .int .u64 (limb yb 3)] : Array Value)).toList = ([.int .u64 (limb yb 0), .int .u64 (limb yb 1), .int .u64 (limb yb 2), .int .u64 (limb yb 3)] : List Value) from rfl, HDb.out]) | ((with_reducible refine load_gateK 24 ?_); first | refine wpList_load_midK rfl 24 _ rfl w.heap.size 0 rfl [.int .u64 (limb own 0), .int .u64 (limb own 1), .int .u64 (limb own 2), .int .u64 (limb own 3)] _ HOb.out Tryz.underlying24 rfl infoW ?_ | refine wpList_load_midK rfl 24 _ rfl (w.heap.size + 2) 0 rfl [.int .u64 (limb val 0), .int .u64 (limb val 1), .int .u64 (limb val 2), .int .u64 (limb val 3)] _ HVb.out Tryz.underlying24 rfl infoW ?_))
    refine (show Calls _ _ _ _ _ from HLL.out _).mono ?_
    rintro e wc ⟨rfl, hb⟩
    have HOc := Lib.hid (HOb.out.after hb)
    have HPc := Lib.hid (HPb.out.after hb)
    have HVc := Lib.hid (HVb.out.after hb)
    have HBc := Lib.hid (HBb.out.trans (hb.mono HBb.out.size))
    have H7c := Lib.hid (H7b.out.after hb)
    have HTac := Lib.hid (HTab.out.after hb)
    have HTbc := Lib.hid (HTb.out.after hb)
    clear hb
    cases ls with
    | true =>
      obtain rfl : 2 = hw := HHW.out
      have ex : own = xa := by rw [← HXA.out]; unfold stX; rw [HLS.out]; rfl
      have ey : other = yb := by rw [← HYB.out]; unfold stY; rw [HLS.out]; rfl
      have hq1 := eq_done 2 ⟨#[]⟩ gas
      have hq2 : ∀ W, (Op.equalIn 10000 24 (.agg #[.int .u64 (limb xa 0), .int .u64 (limb xa 1), .int .u64 (limb xa 2), .int .u64 (limb xa 3)]) (.agg #[.int .u64 (limb own 0), .int .u64 (limb own 1), .int .u64 (limb own 2), .int .u64 (limb own 3)])).run Tryz.prog W = .ok true W := eq_limbs (fun k _ => by rw [ex])
      have hq3 : ∀ W, (Op.equalIn 10000 24 (.agg #[.int .u64 (limb yb 0), .int .u64 (limb yb 1), .int .u64 (limb yb 2), .int .u64 (limb yb 3)]) (.agg #[.int .u64 (limb other 0), .int .u64 (limb other 1), .int .u64 (limb other 2), .int .u64 (limb other 3)])).run Tryz.prog W = .ok true W := eq_limbs (fun k _ => by rw [ey])
      clear ex ey
      go_wp2_with (first | ((with_reducible refine load_gateK 28 ?_); refine wpList_load_midK rfl 28 _ rfl (w8.heap.size) 0 rfl [.int .i64 2, .string ⟨#[]⟩, .int .u64 gas] _ H7c.out.range Tryz.underlying28 rfl infoDone ?_) | ((with_reducible refine load_gateK 24 ?_); first | refine wpList_load_midK rfl 24 _ rfl w.heap.size 0 rfl [.int .u64 (limb own 0), .int .u64 (limb own 1), .int .u64 (limb own 2), .int .u64 (limb own 3)] _ HOc.out Tryz.underlying24 rfl infoW ?_ | refine wpList_load_midK rfl 24 _ rfl (w.heap.size + 1) 0 rfl [.int .u64 (limb other 0), .int .u64 (limb other 1), .int .u64 (limb other 2), .int .u64 (limb other 3)] _ HPc.out Tryz.underlying24 rfl infoW ?_ | refine wpList_load_midK rfl 24 _ rfl ba.heap.size 0 rfl [.int .u64 (limb xa 0), .int .u64 (limb xa 1), .int .u64 (limb xa 2), .int .u64 (limb xa 3)] _ HTac.out.range Tryz.underlying24 rfl infoW ?_ | refine wpList_load_midK rfl 24 _ rfl bb.heap.size 0 rfl [.int .u64 (limb yb 0), .int .u64 (limb yb 1), .int .u64 (limb yb 2), .int .u64 (limb yb 3)] _ HTbc.out.range Tryz.underlying24 rfl infoW ?_))
      go_ret
      exact ⟨rfl, HBc.out⟩
    | false =>
      obtain rfl : 0 = hw := HHW.out
      have ex : ∀ k, k < 4 → limb xa k = limb (subW own val) k := fun k hk => by
        rw [← HXA.out]
        unfold stX
        rw [HLS.out, if_neg (show ¬ (false = true) by decide)]
        by_cases h0 : val = 0
        · rw [if_pos h0, h0, subW_zero own hk]
        · rw [if_neg h0]
      have ey : yb = other + val := by rw [← HYB.out]; unfold stY; rw [HLS.out]; rfl
      obtain ⟨sw, hsw⟩ : ∃ s, subW own val = s := ⟨_, rfl⟩
      obtain ⟨aw, haw⟩ : ∃ s, other + val = s := ⟨_, rfl⟩
      rw [hsw] at ex
      rw [haw] at ey
      have HSU := Lib.hid (fun W => sub_any own val W)
      have HAD := Lib.hid (fun W => add_any other val W)
      rw [hsw] at HSU
      rw [haw] at HAD
      have hq1 := eq_done 0 ⟨#[]⟩ gas
      have hq2 : ∀ W, (Op.equalIn 10000 24 (.agg #[.int .u64 (limb xa 0), .int .u64 (limb xa 1), .int .u64 (limb xa 2), .int .u64 (limb xa 3)]) (.agg #[.int .u64 (limb sw 0), .int .u64 (limb sw 1), .int .u64 (limb sw 2), .int .u64 (limb sw 3)])).run Tryz.prog W = .ok true W := eq_limbs ex
      have hq3 : ∀ W, (Op.equalIn 10000 24 (.agg #[.int .u64 (limb yb 0), .int .u64 (limb yb 1), .int .u64 (limb yb 2), .int .u64 (limb yb 3)]) (.agg #[.int .u64 (limb aw 0), .int .u64 (limb aw 1), .int .u64 (limb aw 2), .int .u64 (limb aw 3)])).run Tryz.prog W = .ok true W := eq_limbs (fun k _ => by rw [ey])
      clear ex ey hsw haw
      go_wp2_with fail
      refine wp_region_held_drew (S := (fun W => W.rangeAt (w8.heap.size) 0 [.int .i64 0, .string ⟨#[]⟩, .int .u64 gas] ∧ W4 W ba.heap.size 0 xa ∧ W4 W bb.heap.size 0 yb ∧ W4 W w.heap.size 0 own ∧ W4 W (w.heap.size + 1) 0 other ∧ W4 W (w.heap.size + 2) 0 val)) (by kernel_rfl) (⟨H7c.out.range, HTac.out.range, HTbc.out.range, HOc.out, HPc.out, HVc.out⟩) (fun hHeld => ?_)
      refine hT 0 ?_
      refine hT 1 ?_
      refine hU 2 ?_ (hy := fun w0 hSw => run_loadR 28 rfl rfl hSw.1 Tryz.underlying28 rfl infoDone)
      refine hT 3 ?_
      refine hT 4 ?_
      refine hT 5 ?_
      refine hT 6 ?_
      refine hT 7 ?_
      refine hU 8 ?_ (hy := fun w0 hSw => run_loadW rfl rfl hSw.2.1)
      refine hU 9 ?_ (hy := fun w0 hSw => run_loadW rfl rfl hSw.2.2.2.1)
      refine hU 10 ?_ (hy := fun w0 hSw => run_loadW rfl rfl hSw.2.2.2.2.2)
      refine wpAnyH_ready (rs := [11]) (by kernel_rfl) (by simp) ?_
      refine AllReadyH.cons rfl (fun K hK => ?_) AllReadyH.nil
      go_simp
      go_at_call 20
      refine (show Calls _ _ _ _ _ from HSU.out _).mono ?_
      rintro e wd ⟨rfl, hb⟩
      have hb := (Below.refl _ wc).drew.trans hb
      have H7d := Lib.hid (H7c.out.after hb)
      have HTad := Lib.hid (HTac.out.after hb)
      have HTbd := Lib.hid (HTbc.out.after hb)
      have HOd := Lib.hid (HOc.out.after hb)
      have HPd := Lib.hid (HPc.out.after hb)
      have HVd := Lib.hid (HVc.out.after hb)
      have HBd := Lib.hid (HBc.out.trans (hb.mono HBc.out.size))
      clear hb
      refine hK.out _ _ (⟨H7d.out.range, HTad.out.range, HTbd.out.range, HOd.out, HPd.out, HVd.out⟩) (fun hHeld => ?_)
      clear hK K
      try simp only [Act.put, zq]
      refine hT 12 ?_
      refine hT 13 ?_
      refine hT 14 ?_
      refine hU 15 ?_ (hy := fun w0 hSw => run_loadW rfl rfl hSw.2.2.1)
      refine hU 16 ?_ (hy := fun w0 hSw => run_loadW rfl rfl hSw.2.2.2.2.1)
      refine hU 17 ?_ (hy := fun w0 hSw => run_loadW rfl rfl hSw.2.2.2.2.2)
      refine wpAnyH_ready (rs := [18]) (by kernel_rfl) (by simp) ?_
      refine AllReadyH.cons rfl (fun K hK => ?_) AllReadyH.nil
      go_simp
      go_at_call 18
      refine (show Calls _ _ _ _ _ from HAD.out _).mono ?_
      rintro e we ⟨rfl, hb⟩
      have H7e := Lib.hid (H7d.out.after hb)
      have HTae := Lib.hid (HTad.out.after hb)
      have HTbe := Lib.hid (HTbd.out.after hb)
      have HOe := Lib.hid (HOd.out.after hb)
      have HPe := Lib.hid (HPd.out.after hb)
      have HVe := Lib.hid (HVd.out.after hb)
      have HBe := Lib.hid (HBd.out.trans (hb.mono HBd.out.size))
      clear hb
      refine hK.out _ _ (⟨H7e.out.range, HTae.out.range, HTbe.out.range, HOe.out, HPe.out, HVe.out⟩) (fun hHeld => ?_)
      clear hK K
      try simp only [Act.put, zq]
      refine hT 19 ?_
      refine hT 20 ?_
      refine hT 21 ?_
      refine wpAnyH_done (by kernel_rfl) ?_ 0
      go_wp2
      go_ret
      exact ⟨rfl, HBe.out⟩
end Go.Proofs.YtlelgbmbmajfmaaGreatDoor

namespace Go.Proofs.YtlelgbmbmajfmaaGreatDoor
open Go.RowKit Go.ChangeShapes Go.WideShapes
theorem ofLimbs_lt {a b c d : Nat} (ha : a < 18446744073709551616) (hb : b < 18446744073709551616) (hc : c < 18446744073709551616) (hd : d < 18446744073709551616) : ofLimbs a b c d < 256 ^ 32 := by
  unfold ofLimbs; rw [p8, p16, p24, p32]; omega
theorem okWide_arr {P : Program} {w : World} {r : Reach} {base : Nat} {t e : TypeId} {n : Nat} {v : Value} (ht : P.underlying t = some (.array n e)) (h : Value.okWide P w r base t v) : ∃ cs, v = .agg cs ∧ cs.size = P.cellsOf t := by
  simp only [Value.okWide, ht] at h
  obtain ⟨cs, h1, h2, _⟩ := h
  exact ⟨cs, h1, h2⟩
theorem u64_natO {n : Int} (h : (Lit.int .u64 n).wf = true) : ∃ k : Nat, n = k ∧ k < 18446744073709551616 := by
  have h1 : IntKind.u64.min ≤ n ∧ n ≤ IntKind.u64.max := by simpa [Lit.wf] using h
  have h2 : IntKind.u64.min = 0 := by decide
  have h3 : IntKind.u64.max = 18446744073709551615 := by decide
  rw [h2, h3] at h1
  exact ⟨n.toNat, by omega, by omega⟩
set_option maxRecDepth 100000 in
theorem word_of_trod {H : Type} {enc : TypeId × Value → H} {W : World} {fuel : Nat} {cs : List Value} {x : DataW H × List MemPlace} (h : DataW.trod enc Tryz.prog W 0 (fun _ => true) true fuel 24 cs = some x) :
    ∃ v, v < 256 ^ 32 ∧ cs = [.int .u64 (limb v 0), .int .u64 (limb v 1), .int .u64 (limb v 2), .int .u64 (limb v 3)] := by
  obtain ⟨xs, m, rfl, rfl, hl, hlen, hf⟩ := DataW.trod_array Tryz.underlying24 h
  have hc4 : Tryz.prog.cellsOf 24 = 4 := by kernel_rfl
  have hc1 : Tryz.prog.cellsOf 22 = 1 := by kernel_rfl
  rw [hc4] at hl
  rw [hc1] at hf
  match cs, hl, xs, hlen with
  | [c0, c1, c2, c3], _, [y0, y1, y2, y3], _ =>
    have h0 := hf 0 (by omega)
    have h1 := hf 1 (by omega)
    have h2 := hf 2 (by omega)
    have h3 := hf 3 (by omega)
    obtain ⟨n0, e0, -, f0⟩ := DataW.trod_int Tryz.underlying22 h0
    obtain ⟨n1, e1, -, f1⟩ := DataW.trod_int Tryz.underlying22 h1
    obtain ⟨n2, e2, -, f2⟩ := DataW.trod_int Tryz.underlying22 h2
    obtain ⟨n3, e3, -, f3⟩ := DataW.trod_int Tryz.underlying22 h3
    cases e0; cases e1; cases e2; cases e3
    obtain ⟨k0, rfl, g0⟩ := u64_natO f0
    obtain ⟨k1, rfl, g1⟩ := u64_natO f1
    obtain ⟨k2, rfl, g2⟩ := u64_natO f2
    obtain ⟨k3, rfl, g3⟩ := u64_natO f3
    obtain ⟨l0, l1, l2, l3⟩ := limb_ofLimbs g0 g1 g2 g3
    exact ⟨ofLimbs k0 k1 k2 k3, ofLimbs_lt g0 g1 g2 g3, by rw [l0, l1, l2, l3]⟩
set_option maxRecDepth 100000 in
theorem open_word {H : Type} {enc : TypeId × Value → H} {W : World} {r : Reach} {b0 : Nat} {v : Value} {d : DataW H} {ps : List MemPlace} (hval : Value.okWide Tryz.prog W r b0 24 v) (hd : DataW.Trod enc Tryz.prog W 0 (fun _ => true) true 24 v d ps) :
    ∃ n, v = wordV n ∧ n < 256 ^ 32 := by
  obtain ⟨cs, rfl, _⟩ := okWide_arr Tryz.underlying24 hval
  obtain ⟨fuel, hf⟩ := hd
  obtain ⟨n, hn, hcs⟩ := word_of_trod hf
  refine ⟨n, ?_, hn⟩
  have : cs.toList = [.int .u64 (limb n 0), .int .u64 (limb n 1), .int .u64 (limb n 2), .int .u64 (limb n 3)] := hcs
  unfold wordV
  rw [← this]
end Go.Proofs.YtlelgbmbmajfmaaGreatDoor

namespace Go.Proofs.YtlelgbmbmajfmaaGreatDoor
open Go.RowKit Go.ChangeShapes Go.WideShapes
theorem stops_row (y0 y1 y2 : Nat) (s3 : Int) (s4 : ByteArray) (W : World) (_ : y0 < 256 ^ 32) (_ : y1 < 256 ^ 32) (h2 : y2 < 256 ^ 32) (h3 : (Lit.int .u64 s3).wf = true) (g4 : s4.size ≤ 1048576) (hK : KecT W) :
    Calls Tryz.prog 8 #[wordV y0, wordV y1, wordV y2, .int .u64 s3, .string s4] W fun e w' => e = .returned (.bool true) ∧ Below W.heap.size W w' := by
  obtain ⟨k, rfl, hk⟩ := u64_natO h3
  exact evmStops_any y0 y1 y2 k s4 W h2 hk g4 hK
end Go.Proofs.YtlelgbmbmajfmaaGreatDoor
