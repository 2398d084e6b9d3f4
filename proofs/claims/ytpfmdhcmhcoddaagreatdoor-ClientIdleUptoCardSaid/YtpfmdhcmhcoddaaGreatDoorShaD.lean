/- The walk of the iterator of sha.blocks. -/
import Derived.Test.YtpfmdhcmhcoddaaGreatDoorShaC
import Derived.Test.YtpfmdhcmhcoddaaGreatDoorRound
namespace Go.Proofs.YtpfmdhcmhcoddaaGreatDoor
open Go.RowKit Go.Shelf Go.Lib
attribute [local go_sem] Oper.semAt_some

/-- an element as yield is handed it -/
def encS (x : List UInt8) : Array Value := #[.string ⟨x.toArray⟩]
/-- the box that the iterator turns -/
def StepS (Bn : Nat) (A B : World) : Prop := A.grownBy B (some Bn) ∧ ((∃ t, Boxed A Bn 9 (.string t)) → ∃ t, Boxed B Bn 9 (.string t))
def SameS (B : Nat) (W W' : World) : Prop := W'.heap[B]? = W.heap[B]?
def boxLenS (W : World) (B : Nat) : Nat := match W.cell? ⟨B, 0, none⟩ with
  | some (.string b) => b.size
  | _ => 0
theorem boxLenS_of {W : World} {B : Nat} {t : TypeId} {b : ByteArray} (h : Boxed W B t (.string b)) : boxLenS W B = b.size := by
  unfold boxLenS; rw [h.cell]
theorem StepS.of {Bn : Nat} {wr w1 : World} {t : ByteArray} (hB : Below wr.heap.size wr w1) (hb : Boxed w1 Bn 9 (.string t)) (t' : ByteArray) : StepS Bn wr (w1.setCell ⟨Bn, 0, none⟩ (.string t')) ∧ Boxed (w1.setCell ⟨Bn, 0, none⟩ (.string t')) Bn 9 (.string t') := by
  have h1 : wr.grownBy w1 none := ⟨hB.os, hB.tape, hB.output, hB.size, fun i hi _ => hB.block i hi⟩
  have h2 := grownBy_setCell' w1 Bn (.string t')
  refine ⟨⟨⟨h2.os.trans h1.os, h2.tape.trans h1.tape, h2.output.trans h1.output, Nat.le_trans h1.size h2.size, fun i hi hne => (h2.block i (Nat.lt_of_lt_of_le hi h1.size) hne).trans (h1.block i hi (by simp))⟩, fun _ => ⟨t', hb.set _⟩⟩, hb.set _⟩
theorem ext_mkS (l : List UInt8) (a b : Nat) : (⟨l.toArray⟩ : ByteArray).extract a b = ⟨((l.take b).drop a).toArray⟩ := by
  apply ByteArray.ext
  apply Array.toList_inj.1
  rw [ByteArray.data_extract, Array.toList_extract, List.extract_eq_drop_take']
theorem app_mkS (l r : List UInt8) : (⟨l.toArray⟩ ++ ⟨r.toArray⟩ : ByteArray) = ⟨(l ++ r).toArray⟩ := by
  apply ByteArray.ext
  apply Array.toList_inj.1
  simp
theorem app_lit (r : List UInt8) : (⟨#[128]⟩ ++ ⟨r.toArray⟩ : ByteArray) = ⟨(128 :: r).toArray⟩ := app_mkS [128] r
theorem size_mkS (l : List UInt8) : (⟨l.toArray⟩ : ByteArray).size = l.length := by simp [ByteArray.size]
theorem repeat_lit (c : Nat) (hc : c < 64) (w : World) : Calls Tryz.prog 107 #[.string ⟨#[0]⟩, .int .i64 c] w fun e w' => e = .returned (.string ⟨(List.replicate c 0).toArray⟩) ∧ Below w.heap.size w w' := by
  have := Tryz.strings_Repeat ⟨#[0]⟩ c w (by omega) (by simp [ByteArray.size]; omega)
  have e : Lib.repeatL (⟨#[0]⟩ : ByteArray).data.toList c = List.replicate c 0 := by
    have := repeatL_replicate 0 1 c
    simpa using this
  rw [e] at this
  exact this
theorem be_takeS (m n i : Nat) (hi : i < m) : (be m n).take (i + 1) = (be m n).take i ++ [UInt8.ofNat (n / 256 ^ (m - 1 - i))] := by
  have h : (be m n)[i]? = some (UInt8.ofNat (n / 256 ^ (m - 1 - i))) := by
    induction m generalizing i with
    | zero => omega
    | succ m ih =>
      rw [be_cons]
      cases i with
      | zero => rfl
      | succ i =>
        rw [List.getElem?_cons_succ, ih i (by omega)]
        congr 4; omega
  rw [List.take_add_one, h]; rfl
/-- the blocks that came, and what is still to be handed out -/
def Fed (pre : List (List UInt8)) (rest l : List UInt8) : Prop := Blocks pre (pre.flatten) ∧ pre.flatten ++ rest = l
theorem Fed.start (l : List UInt8) : Fed [] l l := ⟨Blocks.nil, rfl⟩
theorem Fed.step {pre : List (List UInt8)} {rest l : List UInt8} (h : Fed pre rest l) (hl : 64 ≤ rest.length) : Fed (pre ++ [rest.take 64]) (rest.drop 64) l := by
  obtain ⟨h1, h2⟩ := h
  have := h1.snoc (x := rest.take 64) (by rw [List.length_take]; omega)
  refine ⟨?_, ?_⟩
  · rw [List.flatten_append]; simpa using this
  · rw [List.flatten_append]; simpa using h2
theorem Fed.done {pre : List (List UInt8)} {l : List UInt8} (h : Fed pre [] l) : Blocks pre l := by
  obtain ⟨h1, h2⟩ := h
  rw [List.append_nil] at h2
  rw [← h2]; exact h1
theorem Blocks.len {pre : List (List UInt8)} {l : List UInt8} (h : Blocks pre l) : l.length % 64 = 0 := by
  obtain ⟨h1, h2⟩ := h
  subst h1
  induction pre with
  | nil => rfl
  | cons x r ih =>
    have := ih (fun y hy => h2 y (by simp [hy]))
    have hx := h2 x (by simp)
    rw [List.flatten_cons, List.length_append]; omega

set_option maxRecDepth 100000 in
set_option maxHeartbeats 3200000 in
theorem blocks_body (n : Nat) (hn : 1 ≤ n) (l Bn : Nat) (s : List UInt8) (hs : s.length ≤ 1099511627776)
    (J Jx : List (List UInt8) → World → Prop) (hJ : ∀ pre W0 W1, J pre W0 → StepS Bn W0 W1 → J pre W1)
    (hY : ∀ pre x W1, J pre W1 → x.length = 64 → YieldAt Fence.wide (n - 1) Tryz.prog l (encS x) W1 fun e W' =>
      (e = .returned (.bool true) ∧ J (pre ++ [x]) W' ∧ SameS Bn W1 W') ∨ (e = .returned (.bool false) ∧ Jx (pre ++ [x]) W'))
    (W : World) (hbox : Boxed W Bn 9 (.string ⟨s.toArray⟩)) (h0 : J [] W) :
    CallsIn Fence.wide n Tryz.prog 234 #[.func (.yield l) #[] #[], .pointer (some ⟨Bn, 0, none⟩)] W fun e W' => (∃ v, e = .returned v) ∧
      ((∃ xs, Blocks xs (pad s) ∧ J xs W') ∨ (∃ pre, Jx pre W')) := by
  refine callsIn_of_wp Tryz.func234 rfl trivial ?_ rfl
  simp only [Tryz.ntmps234, List.size_toArray, List.length_cons, List.length_nil, Nat.reduceAdd, Nat.reduceSub, Array.replicate_succ, Array.replicate_zero, List.push_toArray, List.append_toArray, List.nil_append, List.cons_append]
  have hcW := hbox.cell
  have hw0 : IntKind.u64.wrap (s.length : Int) = (s.length : Int) := by rw [IntKind.wrap_u64]; omega
  gi_wp2
  gi_loopw [8] (fun _ wr => ∃ pre rest, Boxed wr Bn 9 (.string ⟨rest.toArray⟩) ∧ J pre wr ∧ Hid (Fed pre rest s)) (fun _ wr => boxLenS wr Bn)
  case atStart => exact ⟨[], s, hbox, h0, Lib.hid (Fed.start s)⟩
  case round =>
    obtain ⟨pre, rest, hb, hJ0, HF⟩ := hrel
    have hc := hb.cell
    have hlen : rest.length ≤ s.length := by have := congrArg List.length HF.out.2; rw [List.length_append] at this; omega
    by_cases h64 : 64 ≤ rest.length
    · have g1 : decide ((64 : Int) ≤ rest.length) = true := by simp; omega
      have g2 : (64 : Int) ≤ rest.length := by omega
      have e3 : (⟨rest.toArray⟩ : ByteArray).extract 0 64 = ⟨(rest.take 64).toArray⟩ := by rw [ext_mkS]; rfl
      have e4 : (⟨rest.toArray⟩ : ByteArray).extract 64 rest.length = ⟨(rest.drop 64).toArray⟩ := by rw [ext_mkS, List.take_length]
      obtain ⟨f1, t1, a1, b1, hy1, hR1⟩ := hY pre (rest.take 64) wr hJ0 (by rw [List.length_take]; omega)
      have HB := Lib.hid hb
      have HF2 := Lib.hid (HF.out.step h64)
      have hlt : (rest.drop 64).length < rest.length := by rw [List.length_drop]; omega
      obtain ⟨x, hx⟩ : ∃ x, rest.take 64 = x := ⟨_, rfl⟩
      obtain ⟨y, hy⟩ : ∃ y, rest.drop 64 = y := ⟨_, rfl⟩
      rw [hx] at e3 hy1 hR1 HF2
      rw [hy] at e4 HF2 hlt
      clear hx hy hb
      simp only [encS] at hy1
      gi_wp2
      refine hR1.mono ?_
      clear hy1
      rintro e W1 (⟨rfl, hJ1, hk1⟩ | ⟨rfl, hx1⟩)
      · have hb2 : Boxed W1 Bn 9 (.string ⟨rest.toArray⟩) := hk1.trans HB.out
        have hc2 := hb2.cell
        have hf2 := hb2.frozen
        obtain ⟨S1, S2⟩ := StepS.of (Below.refl W1.heap.size W1) hb2 ⟨y.toArray⟩
        have HS1 := Lib.hid S1
        have HS2 := Lib.hid S2
        clear hb2 hk1 S1 S2 hc
        gi_wp2
        go_roundw
        case rel => exact ⟨_, y, HS2.out, hJ _ _ _ hJ1 HS1.out, HF2⟩
        case measure => rw [boxLenS_of HS2.out, boxLenS_of HB.out, size_mkS, size_mkS]; exact hlt
      · gi_wp2
        refine bodyPost_ret (results_none rfl _ _ _) rfl ?_
        exact ⟨⟨_, rfl⟩, .inr ⟨_, hx1⟩⟩
    · have g1 : decide ((64 : Int) ≤ rest.length) = false := by simp; omega
      have HB := Lib.hid hb
      have hz := hb.lt
      have hmod : rest.length = s.length % 64 := by
        have h1 := congrArg List.length HF.out.2
        have h2 := HF.out.1.len
        rw [List.length_append] at h1; omega
      obtain ⟨c, hcc⟩ : ∃ c, c = (119 - rest.length) % 64 := ⟨_, rfl⟩
      have hc64 : c < 64 := by omega
      have hR := fun W => repeat_lit c hc64 W
      obtain ⟨z, hzz⟩ : ∃ z, List.replicate c (0 : UInt8) = z := ⟨_, rfl⟩
      rw [hzz] at hR
      have HR := Lib.hid hR
      have hzl : z.length = c := by rw [← hzz, List.length_replicate]
      have hov1 : ¬ 9223372036854775807 < 1 + z.length := by omega
      have hov2 : rest.length + (z.length + 1) ≤ 9223372036854775807 := by omega
      obtain ⟨T, hT⟩ : ∃ T, rest ++ 128 :: z = T := ⟨_, rfl⟩
      have hap1 : (⟨#[128]⟩ ++ ⟨z.toArray⟩ : ByteArray) = ⟨(128 :: z).toArray⟩ := app_lit z
      have hap2 : (⟨rest.toArray⟩ ++ ⟨(128 :: z).toArray⟩ : ByteArray) = ⟨T.toArray⟩ := by rw [app_mkS, hT]
      have HZ := Lib.hid (And.intro hzz hT)
      clear hR hzz hT
      have hw1 : IntKind.i64.wrap ((119 : Int) - rest.length) = 119 - (rest.length : Int) := by rw [IntKind.wrap_i64]; omega
      have hw2 : IntKind.i64.wrap ((c : Int)) = (c : Int) := by rw [IntKind.wrap_i64]; omega
      have hw3 : ((119 : Int) - rest.length).tmod 64 = (c : Int) := by rw [Int.tmod_eq_emod_of_nonneg (by omega)]; omega
      have HM := Lib.hid (And.intro hmod hcc)
      have HS := Lib.hid (fun W' (hb' : Below wr.heap.size wr W') => (show W'.cell? ⟨Bn, 0, none⟩ = some (.string ⟨rest.toArray⟩) from (hb'.cell (p := ⟨Bn, 0, none⟩) hz).trans hc))
      clear hb hmod hcc
      gi_wp2
      refine wpIn_wide.2 ?_
      have b0 : Below wr.heap.size wr wr.drew := (Below.refl _ _).drew
      refine wp_region_L (fun L w' => L.getD 8 true = false → w'.cell? ⟨Bn, 0, none⟩ = some (.string ⟨rest.toArray⟩)) (by kernel_rfl) ?_
      refine wpAnyL_take (i := 0) (v := .string ⟨rest.toArray⟩) (fuel := 8) rfl (by kernel_rfl) (by kernel_rfl) (by kernel_rfl) (by kernel_rfl) (fun _ _ _ h => h) (fun L w' => by rw [getD_set_ne true (by omega)]) (fun _ => HS.out _ b0) (.inl ⟨by rfl, ?_⟩) ?_
      · rintro w' ⟨L, hcl, h0, hS⟩
        have z := hS (closedB_before hcl (i := 0) (by kernel_rfl) h0)
        clear hS hcl h0
        go_simp
      simp only [Act.put, List.getElem_toArray, List.getElem_cons_zero, List.setIfInBounds_toArray, List.set_cons_zero, List.set_cons_succ]
      refine wpAnyL_take (i := 1) (v := .string ⟨rest.toArray⟩) (fuel := 7) rfl (by kernel_rfl) (by kernel_rfl) (by kernel_rfl) (by kernel_rfl) (fun _ _ _ h => h) (fun L w' => by rw [getD_set_ne true (by omega)]) (fun _ => HS.out _ b0) (.inl ⟨by rfl, ?_⟩) ?_
      · rintro w' ⟨L, hcl, h0, hS⟩
        have z := hS (closedB_before hcl (i := 1) (by kernel_rfl) h0)
        clear hS hcl h0
        go_simp
      simp only [Act.put, List.getElem_toArray, List.getElem_cons_zero, List.getElem_cons_succ, List.setIfInBounds_toArray, List.set_cons_zero, List.set_cons_succ]
      refine wpAnyL_take (i := 2) (v := .int .i64 rest.length) (fuel := 6) rfl (by kernel_rfl) (by kernel_rfl) (by kernel_rfl) (by kernel_rfl) (fun _ _ _ h => h) (fun L w' => by rw [getD_set_ne true (by omega)]) (fun _ => HS.out _ b0) (.inl ⟨by rfl, ?_⟩) ?_
      · rintro w' ⟨L, hcl, h0, hS⟩
        have z := hS (closedB_before hcl (i := 2) (by kernel_rfl) h0)
        clear hS hcl h0
        go_simp
      simp only [Act.put, List.getElem_toArray, List.getElem_cons_zero, List.getElem_cons_succ, List.setIfInBounds_toArray, List.set_cons_zero, List.set_cons_succ]
      refine wpAnyL_take (i := 3) (v := .int .i64 (119 - (rest.length : Int))) (fuel := 5) rfl (by kernel_rfl) (by kernel_rfl) (by kernel_rfl) (by kernel_rfl) (fun _ _ _ h => h) (fun L w' => by rw [getD_set_ne true (by omega)]) (fun _ => HS.out _ b0) (.inl ⟨by rfl, ?_⟩) ?_
      · rintro w' ⟨L, hcl, h0, hS⟩
        have z := hS (closedB_before hcl (i := 3) (by kernel_rfl) h0)
        clear hS hcl h0
        go_simp
      simp only [Act.put, List.getElem_toArray, List.getElem_cons_zero, List.getElem_cons_succ, List.setIfInBounds_toArray, List.set_cons_zero, List.set_cons_succ]
      refine wpAnyL_take (i := 4) (v := .int .i64 (c : Int)) (fuel := 4) rfl (by kernel_rfl) (by kernel_rfl) (by kernel_rfl) (by kernel_rfl) (fun _ _ _ h => h) (fun L w' => by rw [getD_set_ne true (by omega)]) (fun _ => HS.out _ b0) (.inl ⟨by rfl, ?_⟩) ?_
      · rintro w' ⟨L, hcl, h0, hS⟩
        have z := hS (closedB_before hcl (i := 4) (by kernel_rfl) h0)
        clear hS hcl h0
        go_simp
      simp only [Act.put, List.getElem_toArray, List.getElem_cons_zero, List.getElem_cons_succ, List.setIfInBounds_toArray, List.set_cons_zero, List.set_cons_succ]
      refine wpAnyL_one (i := 5) (fuel := 3) (by kernel_rfl) rfl (fun K hK => ?_)
      go_simp
      go_at_call 107
      refine (HR.out _).mono ?_
      rintro e w1 ⟨rfl, hb1⟩
      have b1 := b0.trans (hb1.mono b0.size)
      refine hK.out _ _ (fun h => HS.out _ b1) (fun _ => ?_)
      clear hK K
      try simp only [Act.put, List.getElem_toArray, List.getElem_cons_zero, List.getElem_cons_succ, List.setIfInBounds_toArray, List.set_cons_zero, List.set_cons_succ]
      refine wpAnyL_take (i := 6) (v := .string ⟨(128 :: z).toArray⟩) (fuel := 2) rfl (by kernel_rfl) (by kernel_rfl) (by kernel_rfl) (by kernel_rfl) (fun _ _ _ h => h) (fun L w' => by rw [getD_set_ne true (by omega)]) (fun _ => HS.out _ b1) (.inl ⟨by rfl, ?_⟩) ?_
      · rintro w' ⟨L, hcl, h0, hS⟩
        have z := hS (closedB_before hcl (i := 6) (by kernel_rfl) h0)
        clear hS hcl h0
        (go_simp; omega)
      simp only [Act.put, List.getElem_toArray, List.getElem_cons_zero, List.getElem_cons_succ, List.setIfInBounds_toArray, List.set_cons_zero, List.set_cons_succ]
      refine wpAnyL_take (i := 7) (v := .string ⟨T.toArray⟩) (fuel := 1) rfl (by kernel_rfl) (by kernel_rfl) (by kernel_rfl) (by kernel_rfl) (fun _ _ _ h => h) (fun L w' => by rw [getD_set_ne true (by omega)]) (fun _ => HS.out _ b1) (.inl ⟨by rfl, ?_⟩) ?_
      · rintro w' ⟨L, hcl, h0, hS⟩
        have z := hS (closedB_before hcl (i := 7) (by kernel_rfl) h0)
        clear hS hcl h0
        (go_simp; first | omega | (refine ⟨?_, by omega⟩; exact hap2) | (constructor <;> omega))
      simp only [Act.put, List.getElem_toArray, List.getElem_cons_zero, List.getElem_cons_succ, List.setIfInBounds_toArray, List.set_cons_zero, List.set_cons_succ]
      have hb2 : Boxed w1 Bn 9 (.string ⟨rest.toArray⟩) := (b1.block _ hz).trans HB.out
      have q1 := hb2.cell
      have q2 := hb2.frozen
      obtain ⟨S1, S2⟩ := StepS.of b1 hb2 ⟨T.toArray⟩
      have HS1 := Lib.hid S1
      have HS2 := Lib.hid S2
      clear S1 S2 hb2
      refine wpAnyL_one (i := 8) (fuel := 0) (by kernel_rfl) rfl (fun K hK => ?_)
      go_simp
      refine hK.out _ _ (fun h => (by cases h)) (fun _ => ?_)
      clear hK K
      try simp only [Act.put, List.getElem_toArray, List.getElem_cons_zero, List.getElem_cons_succ, List.setIfInBounds_toArray, List.set_cons_zero, List.set_cons_succ]
      refine wpAnyL_done (by kernel_rfl) ?_ 0
      obtain ⟨w2, hw2⟩ : ∃ w2, w1.setCell ⟨Bn, 0, none⟩ (.string ⟨T.toArray⟩) = w2 := ⟨_, rfl⟩
      have hb2 : Boxed w2 Bn 9 (.string ⟨T.toArray⟩) := by rw [← hw2]; exact HS2.out
      have hJ2 : J pre w2 := by rw [← hw2]; exact hJ _ _ _ hJ0 HS1.out
      rw [hw2]
      have hTl : T.length = s.length % 64 + 1 + c := by
        obtain ⟨h1, h2⟩ := HZ.out
        rw [← h2, List.length_append, List.length_cons, hzl, HM.out.1]; omega
      have hFT : pre.flatten ++ T = s ++ 128 :: List.replicate ((119 - s.length % 64) % 64) 0 := by
        obtain ⟨h1, h2⟩ := HZ.out
        rw [← h2, ← List.append_assoc, HF.out.2, ← h1, HM.out.2, HM.out.1]
      have hpre := HF.out.1
      have HP := Lib.hid (And.intro hFT (And.intro hpre HM.out.2))
      obtain ⟨N, hN⟩ : ∃ N, 8 * s.length = N := ⟨_, rfl⟩
      obtain ⟨bl, hbl⟩ : ∃ bl, be 8 N = bl := ⟨_, rfl⟩
      have hm8 : IntKind.u64.wrap (8 * (s.length : Int)) = (N : Int) := by rw [IntKind.wrap_u64]; omega
      have hbll : bl.length = 8 := by rw [← hbl, be_length]
      have HBL := Lib.hid (And.intro hbl (And.intro hN hbll))
      have HTL := Lib.hid hTl
      clear HF hJ0 hc hlen HB hz hzl hov1 hov2 hap1 hap2 HZ HM HS HR HS1 HS2 b0 b1 hb1 q1 q2 hw1 hw2 hw3 hFT hpre hTl g1 h64 hN hbl hbll
      gi_wp2
      gi_loopw [4] (fun i wr => ∃ k : Nat, k ≤ 8 ∧ i = .int .i64 (56 - 8 * (k : Int)) ∧ Boxed wr Bn 9 (.string ⟨(T ++ bl.take k).toArray⟩) ∧ J pre wr) (fun i _ => (RowKit.intOf i + 8).toNat)
      case atStart => exact ⟨0, by omega, rfl, by simpa using hb2, hJ2⟩
      case round =>
        obtain ⟨k, hk, rfl, hb, hJ0⟩ := hrel
        obtain ⟨U, hU⟩ : ∃ U, T ++ bl.take k = U := ⟨_, rfl⟩
        rw [hU] at hb
        have hc := hb.cell
        have hf := hb.frozen
        have hz := hb.lt
        have hUl : U.length = T.length + k := by rw [← hU, List.length_append, List.length_take, HBL.out.2.2]; omega
        by_cases h8 : k < 8
        · have hsn : T ++ bl.take (k + 1) = U ++ [UInt8.ofNat (N / 256 ^ (8 - 1 - k))] := by
            rw [← hU, ← HBL.out.1, be_takeS 8 N k h8, List.append_assoc]
          obtain ⟨b, hbb⟩ : ∃ b, UInt8.ofNat (N / 256 ^ (8 - 1 - k)) = b := ⟨_, rfl⟩
          have hdiv : ((N / 256 ^ (8 - 1 - k) : Nat) : Int) % 256 = (b.toNat : Int) := by rw [← hbb]; simp
          rw [hbb] at hsn
          have HSN := Lib.hid hsn
          have HB := Lib.hid hb
          have hap : (⟨U.toArray⟩ ++ ⟨#[b]⟩ : ByteArray) = ⟨(U ++ [b]).toArray⟩ := app_mkS U [b]
          have hTs : U.length + 1 ≤ 9223372036854775807 := by have := HTL.out; omega
          have HS := Lib.hid (fun W' (hb' : Below wr.heap.size wr W') => (show W'.cell? ⟨Bn, 0, none⟩ = some (.string ⟨U.toArray⟩) from (hb'.cell (p := ⟨Bn, 0, none⟩) hz).trans hc))
          have b0 : Below wr.heap.size wr wr.drew := (Below.refl _ _).drew
          have b5 : Below wr.heap.size wr (wr.alloc (.cells #[.int .u8 b.toNat] 5)).drew := ((Below.refl _ _).alloc (Nat.le_refl _) _).drew
          have hlit : OwnB 5 wr.heap.size (wr.alloc (.cells #[.int .u8 b.toNat] 5)).drew (.slice (some ⟨wr.heap.size, 0, none⟩) 1 1) [b] := OwnB.drew (OwnB.lit wr [b] (Nat.le_refl _) (by simp))
          have hcv := hlit.str (P := Tryz.prog) Tryz.underlying167 Tryz.underlying5 Tryz.underlying9
          have hbx : Boxed (wr.alloc (.cells #[.int .u8 b.toNat] 5)).drew Bn 9 (.string ⟨U.toArray⟩) := hb.alloc _
          clear hlit hU hUl hsn hbb hb
          obtain ⟨kk, hkk⟩ : ∃ kk, kk = k := ⟨_, rfl⟩
          rcases (by omega : k = 0 ∨ k = 1 ∨ k = 2 ∨ k = 3 ∨ k = 4 ∨ k = 5 ∨ k = 6 ∨ k = 7) with rfl | rfl | rfl | rfl | rfl | rfl | rfl | rfl
          · have HK := Lib.hid hkk
            clear hkk
            rw [show (56 - 8 * ((0 : Nat) : Int)) = 56 from rfl]
            have e1 : IntKind.u8.wrap ((N : Int) / 72057594037927936) = (b.toNat : Int) := by rw [IntKind.wrap_u8, ← hdiv]; simp
            gi_wp2
            refine wpIn_wide.2 ?_
            refine wp_region_L (fun L w' => L.getD 9 true = false → w'.cell? ⟨Bn, 0, none⟩ = some (.string ⟨U.toArray⟩)) (by kernel_rfl) ?_
            refine wpAnyL_take (i := 0) (v := .string ⟨U.toArray⟩) (fuel := 9) rfl (by kernel_rfl) (by kernel_rfl) (by kernel_rfl) (by kernel_rfl) (fun _ _ _ h => h) (fun L w' => by rw [getD_set_ne true (by omega)]) (fun _ => HS.out _ b0) (.inl ⟨by rfl, ?_⟩) ?_
            · rintro w' ⟨L, hcl, h0, hS⟩
              have z := hS (closedB_before hcl (i := 0) (by kernel_rfl) h0)
              clear hS hcl h0
              go_simp
            simp only [Act.put, List.getElem_toArray, List.getElem_cons_zero, List.setIfInBounds_toArray, List.set_cons_zero, List.set_cons_succ]
            refine wpAnyL_take (i := 1) (v := .int .u64 s.length) (fuel := 8) rfl (by kernel_rfl) (by kernel_rfl) (by kernel_rfl) (by kernel_rfl) (fun _ _ _ h => h) (fun L w' => by rw [getD_set_ne true (by omega)]) (fun _ => HS.out _ b0) (.inl ⟨by rfl, ?_⟩) ?_
            · rintro w' ⟨L, hcl, h0, hS⟩
              have z := hS (closedB_before hcl (i := 1) (by kernel_rfl) h0)
              clear hS hcl h0
              go_simp
            simp only [Act.put, List.getElem_toArray, List.getElem_cons_zero, List.getElem_cons_succ, List.setIfInBounds_toArray, List.set_cons_zero, List.set_cons_succ]
            refine wpAnyL_take (i := 2) (v := .int .u64 N) (fuel := 7) rfl (by kernel_rfl) (by kernel_rfl) (by kernel_rfl) (by kernel_rfl) (fun _ _ _ h => h) (fun L w' => by rw [getD_set_ne true (by omega)]) (fun _ => HS.out _ b0) (.inl ⟨by rfl, ?_⟩) ?_
            · rintro w' ⟨L, hcl, h0, hS⟩
              have z := hS (closedB_before hcl (i := 2) (by kernel_rfl) h0)
              clear hS hcl h0
              go_simp
            simp only [Act.put, List.getElem_toArray, List.getElem_cons_zero, List.getElem_cons_succ, List.setIfInBounds_toArray, List.set_cons_zero, List.set_cons_succ]
            refine wpAnyL_take (i := 3) (v := .int .i64 56) (fuel := 6) rfl (by kernel_rfl) (by kernel_rfl) (by kernel_rfl) (by kernel_rfl) (fun _ _ _ h => h) (fun L w' => by rw [getD_set_ne true (by omega)]) (fun _ => HS.out _ b0) (.inl ⟨by rfl, ?_⟩) ?_
            · rintro w' ⟨L, hcl, h0, hS⟩
              have z := hS (closedB_before hcl (i := 3) (by kernel_rfl) h0)
              clear hS hcl h0
              go_simp
            simp only [Act.put, List.getElem_toArray, List.getElem_cons_zero, List.getElem_cons_succ, List.setIfInBounds_toArray, List.set_cons_zero, List.set_cons_succ]
            refine wpAnyL_take (i := 4) (v := .int .u64 ((N : Int) / 72057594037927936)) (fuel := 5) rfl (by kernel_rfl) (by kernel_rfl) (by kernel_rfl) (by kernel_rfl) (fun _ _ _ h => h) (fun L w' => by rw [getD_set_ne true (by omega)]) (fun _ => HS.out _ b0) (.inl ⟨by rfl, ?_⟩) ?_
            · rintro w' ⟨L, hcl, h0, hS⟩
              have z := hS (closedB_before hcl (i := 4) (by kernel_rfl) h0)
              clear hS hcl h0
              go_simp
            simp only [Act.put, List.getElem_toArray, List.getElem_cons_zero, List.getElem_cons_succ, List.setIfInBounds_toArray, List.set_cons_zero, List.set_cons_succ]
            refine wpAnyL_take (i := 5) (v := .int .u8 b.toNat) (fuel := 4) rfl (by kernel_rfl) (by kernel_rfl) (by kernel_rfl) (by kernel_rfl) (fun _ _ _ h => h) (fun L w' => by rw [getD_set_ne true (by omega)]) (fun _ => HS.out _ b0) (.inl ⟨by rfl, ?_⟩) ?_
            · rintro w' ⟨L, hcl, h0, hS⟩
              have z := hS (closedB_before hcl (i := 5) (by kernel_rfl) h0)
              clear hS hcl h0
              go_simp
            simp only [Act.put, List.getElem_toArray, List.getElem_cons_zero, List.getElem_cons_succ, List.setIfInBounds_toArray, List.set_cons_zero, List.set_cons_succ]
            refine wpAnyL_one (i := 6) (fuel := 3) (by kernel_rfl) rfl (fun K hK => ?_)
            go_simp
            refine hK.out _ _ (fun h => HS.out _ b5) (fun _ => ?_)
            clear hK K
            try simp only [Act.put, List.getElem_toArray, List.getElem_cons_zero, List.getElem_cons_succ, List.setIfInBounds_toArray, List.set_cons_zero, List.set_cons_succ]
            obtain ⟨w5, hw5⟩ : ∃ w5, (wr.alloc (.cells #[.int .u8 b.toNat] 5)).drew = w5 := ⟨_, rfl⟩
            rw [hw5] at hcv hbx b5 ⊢
            refine wpAnyL_one (i := 7) (fuel := 2) (by kernel_rfl) rfl (fun K hK => ?_)
            go_simp
            refine hK.out _ _ (fun h => HS.out _ b5) (fun _ => ?_)
            clear hK K
            try simp only [Act.put, List.getElem_toArray, List.getElem_cons_zero, List.getElem_cons_succ, List.setIfInBounds_toArray, List.set_cons_zero, List.set_cons_succ]
            refine wpAnyL_take (i := 8) (v := .string ⟨(U ++ [b]).toArray⟩) (fuel := 1) rfl (by kernel_rfl) (by kernel_rfl) (by kernel_rfl) (by kernel_rfl) (fun _ _ _ h => h) (fun L w' => by rw [getD_set_ne true (by omega)]) (fun _ => HS.out _ b5) (.inl ⟨by rfl, ?_⟩) ?_
            · rintro w' ⟨L, hcl, h0, hS⟩
              have z := hS (closedB_before hcl (i := 8) (by kernel_rfl) h0)
              clear hS hcl h0
              (go_simp <;> omega)
            simp only [Act.put, List.getElem_toArray, List.getElem_cons_zero, List.getElem_cons_succ, List.setIfInBounds_toArray, List.set_cons_zero, List.set_cons_succ]
            have q1 := hbx.cell
            have q2 := hbx.frozen
            obtain ⟨S1, S2⟩ := StepS.of b5 hbx ⟨(U ++ [b]).toArray⟩
            have HS1 := Lib.hid S1
            have HS2 := Lib.hid S2
            clear S1 S2 hbx hcv hw5
            refine wpAnyL_one (i := 9) (fuel := 0) (by kernel_rfl) rfl (fun K hK => ?_)
            go_simp
            refine hK.out _ _ (fun h => (by cases h)) (fun _ => ?_)
            clear hK K
            try simp only [Act.put, List.getElem_toArray, List.getElem_cons_zero, List.getElem_cons_succ, List.setIfInBounds_toArray, List.set_cons_zero, List.set_cons_succ]
            refine wpAnyL_done (by kernel_rfl) ?_ 0
            gi_wp2
            go_roundw
            case rel => exact ⟨kk + 1, by have := HK.out; omega, by rw [HK.out] <;> rfl, by rw [HK.out, HSN.out]; exact HS2.out, hJ _ _ _ hJ0 HS1.out⟩
            case measure => simp [RowKit.intOf]
          · have HK := Lib.hid hkk
            clear hkk
            rw [show (56 - 8 * ((1 : Nat) : Int)) = 48 from rfl]
            have e1 : IntKind.u8.wrap ((N : Int) / 281474976710656) = (b.toNat : Int) := by rw [IntKind.wrap_u8, ← hdiv]; simp
            gi_wp2
            refine wpIn_wide.2 ?_
            refine wp_region_L (fun L w' => L.getD 9 true = false → w'.cell? ⟨Bn, 0, none⟩ = some (.string ⟨U.toArray⟩)) (by kernel_rfl) ?_
            refine wpAnyL_take (i := 0) (v := .string ⟨U.toArray⟩) (fuel := 9) rfl (by kernel_rfl) (by kernel_rfl) (by kernel_rfl) (by kernel_rfl) (fun _ _ _ h => h) (fun L w' => by rw [getD_set_ne true (by omega)]) (fun _ => HS.out _ b0) (.inl ⟨by rfl, ?_⟩) ?_
            · rintro w' ⟨L, hcl, h0, hS⟩
              have z := hS (closedB_before hcl (i := 0) (by kernel_rfl) h0)
              clear hS hcl h0
              go_simp
            simp only [Act.put, List.getElem_toArray, List.getElem_cons_zero, List.setIfInBounds_toArray, List.set_cons_zero, List.set_cons_succ]
            refine wpAnyL_take (i := 1) (v := .int .u64 s.length) (fuel := 8) rfl (by kernel_rfl) (by kernel_rfl) (by kernel_rfl) (by kernel_rfl) (fun _ _ _ h => h) (fun L w' => by rw [getD_set_ne true (by omega)]) (fun _ => HS.out _ b0) (.inl ⟨by rfl, ?_⟩) ?_
            · rintro w' ⟨L, hcl, h0, hS⟩
              have z := hS (closedB_before hcl (i := 1) (by kernel_rfl) h0)
              clear hS hcl h0
              go_simp
            simp only [Act.put, List.getElem_toArray, List.getElem_cons_zero, List.getElem_cons_succ, List.setIfInBounds_toArray, List.set_cons_zero, List.set_cons_succ]
            refine wpAnyL_take (i := 2) (v := .int .u64 N) (fuel := 7) rfl (by kernel_rfl) (by kernel_rfl) (by kernel_rfl) (by kernel_rfl) (fun _ _ _ h => h) (fun L w' => by rw [getD_set_ne true (by omega)]) (fun _ => HS.out _ b0) (.inl ⟨by rfl, ?_⟩) ?_
            · rintro w' ⟨L, hcl, h0, hS⟩
              have z := hS (closedB_before hcl (i := 2) (by kernel_rfl) h0)
              clear hS hcl h0
              go_simp
            simp only [Act.put, List.getElem_toArray, List.getElem_cons_zero, List.getElem_cons_succ, List.setIfInBounds_toArray, List.set_cons_zero, List.set_cons_succ]
            refine wpAnyL_take (i := 3) (v := .int .i64 48) (fuel := 6) rfl (by kernel_rfl) (by kernel_rfl) (by kernel_rfl) (by kernel_rfl) (fun _ _ _ h => h) (fun L w' => by rw [getD_set_ne true (by omega)]) (fun _ => HS.out _ b0) (.inl ⟨by rfl, ?_⟩) ?_
            · rintro w' ⟨L, hcl, h0, hS⟩
              have z := hS (closedB_before hcl (i := 3) (by kernel_rfl) h0)
              clear hS hcl h0
              go_simp
            simp only [Act.put, List.getElem_toArray, List.getElem_cons_zero, List.getElem_cons_succ, List.setIfInBounds_toArray, List.set_cons_zero, List.set_cons_succ]
            refine wpAnyL_take (i := 4) (v := .int .u64 ((N : Int) / 281474976710656)) (fuel := 5) rfl (by kernel_rfl) (by kernel_rfl) (by kernel_rfl) (by kernel_rfl) (fun _ _ _ h => h) (fun L w' => by rw [getD_set_ne true (by omega)]) (fun _ => HS.out _ b0) (.inl ⟨by rfl, ?_⟩) ?_
            · rintro w' ⟨L, hcl, h0, hS⟩
              have z := hS (closedB_before hcl (i := 4) (by kernel_rfl) h0)
              clear hS hcl h0
              go_simp
            simp only [Act.put, List.getElem_toArray, List.getElem_cons_zero, List.getElem_cons_succ, List.setIfInBounds_toArray, List.set_cons_zero, List.set_cons_succ]
            refine wpAnyL_take (i := 5) (v := .int .u8 b.toNat) (fuel := 4) rfl (by kernel_rfl) (by kernel_rfl) (by kernel_rfl) (by kernel_rfl) (fun _ _ _ h => h) (fun L w' => by rw [getD_set_ne true (by omega)]) (fun _ => HS.out _ b0) (.inl ⟨by rfl, ?_⟩) ?_
            · rintro w' ⟨L, hcl, h0, hS⟩
              have z := hS (closedB_before hcl (i := 5) (by kernel_rfl) h0)
              clear hS hcl h0
              go_simp
            simp only [Act.put, List.getElem_toArray, List.getElem_cons_zero, List.getElem_cons_succ, List.setIfInBounds_toArray, List.set_cons_zero, List.set_cons_succ]
            refine wpAnyL_one (i := 6) (fuel := 3) (by kernel_rfl) rfl (fun K hK => ?_)
            go_simp
            refine hK.out _ _ (fun h => HS.out _ b5) (fun _ => ?_)
            clear hK K
            try simp only [Act.put, List.getElem_toArray, List.getElem_cons_zero, List.getElem_cons_succ, List.setIfInBounds_toArray, List.set_cons_zero, List.set_cons_succ]
            obtain ⟨w5, hw5⟩ : ∃ w5, (wr.alloc (.cells #[.int .u8 b.toNat] 5)).drew = w5 := ⟨_, rfl⟩
            rw [hw5] at hcv hbx b5 ⊢
            refine wpAnyL_one (i := 7) (fuel := 2) (by kernel_rfl) rfl (fun K hK => ?_)
            go_simp
            refine hK.out _ _ (fun h => HS.out _ b5) (fun _ => ?_)
            clear hK K
            try simp only [Act.put, List.getElem_toArray, List.getElem_cons_zero, List.getElem_cons_succ, List.setIfInBounds_toArray, List.set_cons_zero, List.set_cons_succ]
            refine wpAnyL_take (i := 8) (v := .string ⟨(U ++ [b]).toArray⟩) (fuel := 1) rfl (by kernel_rfl) (by kernel_rfl) (by kernel_rfl) (by kernel_rfl) (fun _ _ _ h => h) (fun L w' => by rw [getD_set_ne true (by omega)]) (fun _ => HS.out _ b5) (.inl ⟨by rfl, ?_⟩) ?_
            · rintro w' ⟨L, hcl, h0, hS⟩
              have z := hS (closedB_before hcl (i := 8) (by kernel_rfl) h0)
              clear hS hcl h0
              (go_simp <;> omega)
            simp only [Act.put, List.getElem_toArray, List.getElem_cons_zero, List.getElem_cons_succ, List.setIfInBounds_toArray, List.set_cons_zero, List.set_cons_succ]
            have q1 := hbx.cell
            have q2 := hbx.frozen
            obtain ⟨S1, S2⟩ := StepS.of b5 hbx ⟨(U ++ [b]).toArray⟩
            have HS1 := Lib.hid S1
            have HS2 := Lib.hid S2
            clear S1 S2 hbx hcv hw5
            refine wpAnyL_one (i := 9) (fuel := 0) (by kernel_rfl) rfl (fun K hK => ?_)
            go_simp
            refine hK.out _ _ (fun h => (by cases h)) (fun _ => ?_)
            clear hK K
            try simp only [Act.put, List.getElem_toArray, List.getElem_cons_zero, List.getElem_cons_succ, List.setIfInBounds_toArray, List.set_cons_zero, List.set_cons_succ]
            refine wpAnyL_done (by kernel_rfl) ?_ 0
            gi_wp2
            go_roundw
            case rel => exact ⟨kk + 1, by have := HK.out; omega, by rw [HK.out] <;> rfl, by rw [HK.out, HSN.out]; exact HS2.out, hJ _ _ _ hJ0 HS1.out⟩
            case measure => simp [RowKit.intOf]
          · have HK := Lib.hid hkk
            clear hkk
            rw [show (56 - 8 * ((2 : Nat) : Int)) = 40 from rfl]
            have e1 : IntKind.u8.wrap ((N : Int) / 1099511627776) = (b.toNat : Int) := by rw [IntKind.wrap_u8, ← hdiv]; simp
            gi_wp2
            refine wpIn_wide.2 ?_
            refine wp_region_L (fun L w' => L.getD 9 true = false → w'.cell? ⟨Bn, 0, none⟩ = some (.string ⟨U.toArray⟩)) (by kernel_rfl) ?_
            refine wpAnyL_take (i := 0) (v := .string ⟨U.toArray⟩) (fuel := 9) rfl (by kernel_rfl) (by kernel_rfl) (by kernel_rfl) (by kernel_rfl) (fun _ _ _ h => h) (fun L w' => by rw [getD_set_ne true (by omega)]) (fun _ => HS.out _ b0) (.inl ⟨by rfl, ?_⟩) ?_
            · rintro w' ⟨L, hcl, h0, hS⟩
              have z := hS (closedB_before hcl (i := 0) (by kernel_rfl) h0)
              clear hS hcl h0
              go_simp
            simp only [Act.put, List.getElem_toArray, List.getElem_cons_zero, List.setIfInBounds_toArray, List.set_cons_zero, List.set_cons_succ]
            refine wpAnyL_take (i := 1) (v := .int .u64 s.length) (fuel := 8) rfl (by kernel_rfl) (by kernel_rfl) (by kernel_rfl) (by kernel_rfl) (fun _ _ _ h => h) (fun L w' => by rw [getD_set_ne true (by omega)]) (fun _ => HS.out _ b0) (.inl ⟨by rfl, ?_⟩) ?_
            · rintro w' ⟨L, hcl, h0, hS⟩
              have z := hS (closedB_before hcl (i := 1) (by kernel_rfl) h0)
              clear hS hcl h0
              go_simp
            simp only [Act.put, List.getElem_toArray, List.getElem_cons_zero, List.getElem_cons_succ, List.setIfInBounds_toArray, List.set_cons_zero, List.set_cons_succ]
            refine wpAnyL_take (i := 2) (v := .int .u64 N) (fuel := 7) rfl (by kernel_rfl) (by kernel_rfl) (by kernel_rfl) (by kernel_rfl) (fun _ _ _ h => h) (fun L w' => by rw [getD_set_ne true (by omega)]) (fun _ => HS.out _ b0) (.inl ⟨by rfl, ?_⟩) ?_
            · rintro w' ⟨L, hcl, h0, hS⟩
              have z := hS (closedB_before hcl (i := 2) (by kernel_rfl) h0)
              clear hS hcl h0
              go_simp
            simp only [Act.put, List.getElem_toArray, List.getElem_cons_zero, List.getElem_cons_succ, List.setIfInBounds_toArray, List.set_cons_zero, List.set_cons_succ]
            refine wpAnyL_take (i := 3) (v := .int .i64 40) (fuel := 6) rfl (by kernel_rfl) (by kernel_rfl) (by kernel_rfl) (by kernel_rfl) (fun _ _ _ h => h) (fun L w' => by rw [getD_set_ne true (by omega)]) (fun _ => HS.out _ b0) (.inl ⟨by rfl, ?_⟩) ?_
            · rintro w' ⟨L, hcl, h0, hS⟩
              have z := hS (closedB_before hcl (i := 3) (by kernel_rfl) h0)
              clear hS hcl h0
              go_simp
            simp only [Act.put, List.getElem_toArray, List.getElem_cons_zero, List.getElem_cons_succ, List.setIfInBounds_toArray, List.set_cons_zero, List.set_cons_succ]
            refine wpAnyL_take (i := 4) (v := .int .u64 ((N : Int) / 1099511627776)) (fuel := 5) rfl (by kernel_rfl) (by kernel_rfl) (by kernel_rfl) (by kernel_rfl) (fun _ _ _ h => h) (fun L w' => by rw [getD_set_ne true (by omega)]) (fun _ => HS.out _ b0) (.inl ⟨by rfl, ?_⟩) ?_
            · rintro w' ⟨L, hcl, h0, hS⟩
              have z := hS (closedB_before hcl (i := 4) (by kernel_rfl) h0)
              clear hS hcl h0
              go_simp
            simp only [Act.put, List.getElem_toArray, List.getElem_cons_zero, List.getElem_cons_succ, List.setIfInBounds_toArray, List.set_cons_zero, List.set_cons_succ]
            refine wpAnyL_take (i := 5) (v := .int .u8 b.toNat) (fuel := 4) rfl (by kernel_rfl) (by kernel_rfl) (by kernel_rfl) (by kernel_rfl) (fun _ _ _ h => h) (fun L w' => by rw [getD_set_ne true (by omega)]) (fun _ => HS.out _ b0) (.inl ⟨by rfl, ?_⟩) ?_
            · rintro w' ⟨L, hcl, h0, hS⟩
              have z := hS (closedB_before hcl (i := 5) (by kernel_rfl) h0)
              clear hS hcl h0
              go_simp
            simp only [Act.put, List.getElem_toArray, List.getElem_cons_zero, List.getElem_cons_succ, List.setIfInBounds_toArray, List.set_cons_zero, List.set_cons_succ]
            refine wpAnyL_one (i := 6) (fuel := 3) (by kernel_rfl) rfl (fun K hK => ?_)
            go_simp
            refine hK.out _ _ (fun h => HS.out _ b5) (fun _ => ?_)
            clear hK K
            try simp only [Act.put, List.getElem_toArray, List.getElem_cons_zero, List.getElem_cons_succ, List.setIfInBounds_toArray, List.set_cons_zero, List.set_cons_succ]
            obtain ⟨w5, hw5⟩ : ∃ w5, (wr.alloc (.cells #[.int .u8 b.toNat] 5)).drew = w5 := ⟨_, rfl⟩
            rw [hw5] at hcv hbx b5 ⊢
            refine wpAnyL_one (i := 7) (fuel := 2) (by kernel_rfl) rfl (fun K hK => ?_)
            go_simp
            refine hK.out _ _ (fun h => HS.out _ b5) (fun _ => ?_)
            clear hK K
            try simp only [Act.put, List.getElem_toArray, List.getElem_cons_zero, List.getElem_cons_succ, List.setIfInBounds_toArray, List.set_cons_zero, List.set_cons_succ]
            refine wpAnyL_take (i := 8) (v := .string ⟨(U ++ [b]).toArray⟩) (fuel := 1) rfl (by kernel_rfl) (by kernel_rfl) (by kernel_rfl) (by kernel_rfl) (fun _ _ _ h => h) (fun L w' => by rw [getD_set_ne true (by omega)]) (fun _ => HS.out _ b5) (.inl ⟨by rfl, ?_⟩) ?_
            · rintro w' ⟨L, hcl, h0, hS⟩
              have z := hS (closedB_before hcl (i := 8) (by kernel_rfl) h0)
              clear hS hcl h0
              (go_simp <;> omega)
            simp only [Act.put, List.getElem_toArray, List.getElem_cons_zero, List.getElem_cons_succ, List.setIfInBounds_toArray, List.set_cons_zero, List.set_cons_succ]
            have q1 := hbx.cell
            have q2 := hbx.frozen
            obtain ⟨S1, S2⟩ := StepS.of b5 hbx ⟨(U ++ [b]).toArray⟩
            have HS1 := Lib.hid S1
            have HS2 := Lib.hid S2
            clear S1 S2 hbx hcv hw5
            refine wpAnyL_one (i := 9) (fuel := 0) (by kernel_rfl) rfl (fun K hK => ?_)
            go_simp
            refine hK.out _ _ (fun h => (by cases h)) (fun _ => ?_)
            clear hK K
            try simp only [Act.put, List.getElem_toArray, List.getElem_cons_zero, List.getElem_cons_succ, List.setIfInBounds_toArray, List.set_cons_zero, List.set_cons_succ]
            refine wpAnyL_done (by kernel_rfl) ?_ 0
            gi_wp2
            go_roundw
            case rel => exact ⟨kk + 1, by have := HK.out; omega, by rw [HK.out] <;> rfl, by rw [HK.out, HSN.out]; exact HS2.out, hJ _ _ _ hJ0 HS1.out⟩
            case measure => simp [RowKit.intOf]
          · have HK := Lib.hid hkk
            clear hkk
            rw [show (56 - 8 * ((3 : Nat) : Int)) = 32 from rfl]
            have e1 : IntKind.u8.wrap ((N : Int) / 4294967296) = (b.toNat : Int) := by rw [IntKind.wrap_u8, ← hdiv]; simp
            gi_wp2
            refine wpIn_wide.2 ?_
            refine wp_region_L (fun L w' => L.getD 9 true = false → w'.cell? ⟨Bn, 0, none⟩ = some (.string ⟨U.toArray⟩)) (by kernel_rfl) ?_
            refine wpAnyL_take (i := 0) (v := .string ⟨U.toArray⟩) (fuel := 9) rfl (by kernel_rfl) (by kernel_rfl) (by kernel_rfl) (by kernel_rfl) (fun _ _ _ h => h) (fun L w' => by rw [getD_set_ne true (by omega)]) (fun _ => HS.out _ b0) (.inl ⟨by rfl, ?_⟩) ?_
            · rintro w' ⟨L, hcl, h0, hS⟩
              have z := hS (closedB_before hcl (i := 0) (by kernel_rfl) h0)
              clear hS hcl h0
              go_simp
            simp only [Act.put, List.getElem_toArray, List.getElem_cons_zero, List.setIfInBounds_toArray, List.set_cons_zero, List.set_cons_succ]
            refine wpAnyL_take (i := 1) (v := .int .u64 s.length) (fuel := 8) rfl (by kernel_rfl) (by kernel_rfl) (by kernel_rfl) (by kernel_rfl) (fun _ _ _ h => h) (fun L w' => by rw [getD_set_ne true (by omega)]) (fun _ => HS.out _ b0) (.inl ⟨by rfl, ?_⟩) ?_
            · rintro w' ⟨L, hcl, h0, hS⟩
              have z := hS (closedB_before hcl (i := 1) (by kernel_rfl) h0)
              clear hS hcl h0
              go_simp
            simp only [Act.put, List.getElem_toArray, List.getElem_cons_zero, List.getElem_cons_succ, List.setIfInBounds_toArray, List.set_cons_zero, List.set_cons_succ]
            refine wpAnyL_take (i := 2) (v := .int .u64 N) (fuel := 7) rfl (by kernel_rfl) (by kernel_rfl) (by kernel_rfl) (by kernel_rfl) (fun _ _ _ h => h) (fun L w' => by rw [getD_set_ne true (by omega)]) (fun _ => HS.out _ b0) (.inl ⟨by rfl, ?_⟩) ?_
            · rintro w' ⟨L, hcl, h0, hS⟩
              have z := hS (closedB_before hcl (i := 2) (by kernel_rfl) h0)
              clear hS hcl h0
              go_simp
            simp only [Act.put, List.getElem_toArray, List.getElem_cons_zero, List.getElem_cons_succ, List.setIfInBounds_toArray, List.set_cons_zero, List.set_cons_succ]
            refine wpAnyL_take (i := 3) (v := .int .i64 32) (fuel := 6) rfl (by kernel_rfl) (by kernel_rfl) (by kernel_rfl) (by kernel_rfl) (fun _ _ _ h => h) (fun L w' => by rw [getD_set_ne true (by omega)]) (fun _ => HS.out _ b0) (.inl ⟨by rfl, ?_⟩) ?_
            · rintro w' ⟨L, hcl, h0, hS⟩
              have z := hS (closedB_before hcl (i := 3) (by kernel_rfl) h0)
              clear hS hcl h0
              go_simp
            simp only [Act.put, List.getElem_toArray, List.getElem_cons_zero, List.getElem_cons_succ, List.setIfInBounds_toArray, List.set_cons_zero, List.set_cons_succ]
            refine wpAnyL_take (i := 4) (v := .int .u64 ((N : Int) / 4294967296)) (fuel := 5) rfl (by kernel_rfl) (by kernel_rfl) (by kernel_rfl) (by kernel_rfl) (fun _ _ _ h => h) (fun L w' => by rw [getD_set_ne true (by omega)]) (fun _ => HS.out _ b0) (.inl ⟨by rfl, ?_⟩) ?_
            · rintro w' ⟨L, hcl, h0, hS⟩
              have z := hS (closedB_before hcl (i := 4) (by kernel_rfl) h0)
              clear hS hcl h0
              go_simp
            simp only [Act.put, List.getElem_toArray, List.getElem_cons_zero, List.getElem_cons_succ, List.setIfInBounds_toArray, List.set_cons_zero, List.set_cons_succ]
            refine wpAnyL_take (i := 5) (v := .int .u8 b.toNat) (fuel := 4) rfl (by kernel_rfl) (by kernel_rfl) (by kernel_rfl) (by kernel_rfl) (fun _ _ _ h => h) (fun L w' => by rw [getD_set_ne true (by omega)]) (fun _ => HS.out _ b0) (.inl ⟨by rfl, ?_⟩) ?_
            · rintro w' ⟨L, hcl, h0, hS⟩
              have z := hS (closedB_before hcl (i := 5) (by kernel_rfl) h0)
              clear hS hcl h0
              go_simp
            simp only [Act.put, List.getElem_toArray, List.getElem_cons_zero, List.getElem_cons_succ, List.setIfInBounds_toArray, List.set_cons_zero, List.set_cons_succ]
            refine wpAnyL_one (i := 6) (fuel := 3) (by kernel_rfl) rfl (fun K hK => ?_)
            go_simp
            refine hK.out _ _ (fun h => HS.out _ b5) (fun _ => ?_)
            clear hK K
            try simp only [Act.put, List.getElem_toArray, List.getElem_cons_zero, List.getElem_cons_succ, List.setIfInBounds_toArray, List.set_cons_zero, List.set_cons_succ]
            obtain ⟨w5, hw5⟩ : ∃ w5, (wr.alloc (.cells #[.int .u8 b.toNat] 5)).drew = w5 := ⟨_, rfl⟩
            rw [hw5] at hcv hbx b5 ⊢
            refine wpAnyL_one (i := 7) (fuel := 2) (by kernel_rfl) rfl (fun K hK => ?_)
            go_simp
            refine hK.out _ _ (fun h => HS.out _ b5) (fun _ => ?_)
            clear hK K
            try simp only [Act.put, List.getElem_toArray, List.getElem_cons_zero, List.getElem_cons_succ, List.setIfInBounds_toArray, List.set_cons_zero, List.set_cons_succ]
            refine wpAnyL_take (i := 8) (v := .string ⟨(U ++ [b]).toArray⟩) (fuel := 1) rfl (by kernel_rfl) (by kernel_rfl) (by kernel_rfl) (by kernel_rfl) (fun _ _ _ h => h) (fun L w' => by rw [getD_set_ne true (by omega)]) (fun _ => HS.out _ b5) (.inl ⟨by rfl, ?_⟩) ?_
            · rintro w' ⟨L, hcl, h0, hS⟩
              have z := hS (closedB_before hcl (i := 8) (by kernel_rfl) h0)
              clear hS hcl h0
              (go_simp <;> omega)
            simp only [Act.put, List.getElem_toArray, List.getElem_cons_zero, List.getElem_cons_succ, List.setIfInBounds_toArray, List.set_cons_zero, List.set_cons_succ]
            have q1 := hbx.cell
            have q2 := hbx.frozen
            obtain ⟨S1, S2⟩ := StepS.of b5 hbx ⟨(U ++ [b]).toArray⟩
            have HS1 := Lib.hid S1
            have HS2 := Lib.hid S2
            clear S1 S2 hbx hcv hw5
            refine wpAnyL_one (i := 9) (fuel := 0) (by kernel_rfl) rfl (fun K hK => ?_)
            go_simp
            refine hK.out _ _ (fun h => (by cases h)) (fun _ => ?_)
            clear hK K
            try simp only [Act.put, List.getElem_toArray, List.getElem_cons_zero, List.getElem_cons_succ, List.setIfInBounds_toArray, List.set_cons_zero, List.set_cons_succ]
            refine wpAnyL_done (by kernel_rfl) ?_ 0
            gi_wp2
            go_roundw
            case rel => exact ⟨kk + 1, by have := HK.out; omega, by rw [HK.out] <;> rfl, by rw [HK.out, HSN.out]; exact HS2.out, hJ _ _ _ hJ0 HS1.out⟩
            case measure => simp [RowKit.intOf]
          · have HK := Lib.hid hkk
            clear hkk
            rw [show (56 - 8 * ((4 : Nat) : Int)) = 24 from rfl]
            have e1 : IntKind.u8.wrap ((N : Int) / 16777216) = (b.toNat : Int) := by rw [IntKind.wrap_u8, ← hdiv]; simp
            gi_wp2
            refine wpIn_wide.2 ?_
            refine wp_region_L (fun L w' => L.getD 9 true = false → w'.cell? ⟨Bn, 0, none⟩ = some (.string ⟨U.toArray⟩)) (by kernel_rfl) ?_
            refine wpAnyL_take (i := 0) (v := .string ⟨U.toArray⟩) (fuel := 9) rfl (by kernel_rfl) (by kernel_rfl) (by kernel_rfl) (by kernel_rfl) (fun _ _ _ h => h) (fun L w' => by rw [getD_set_ne true (by omega)]) (fun _ => HS.out _ b0) (.inl ⟨by rfl, ?_⟩) ?_
            · rintro w' ⟨L, hcl, h0, hS⟩
              have z := hS (closedB_before hcl (i := 0) (by kernel_rfl) h0)
              clear hS hcl h0
              go_simp
            simp only [Act.put, List.getElem_toArray, List.getElem_cons_zero, List.setIfInBounds_toArray, List.set_cons_zero, List.set_cons_succ]
            refine wpAnyL_take (i := 1) (v := .int .u64 s.length) (fuel := 8) rfl (by kernel_rfl) (by kernel_rfl) (by kernel_rfl) (by kernel_rfl) (fun _ _ _ h => h) (fun L w' => by rw [getD_set_ne true (by omega)]) (fun _ => HS.out _ b0) (.inl ⟨by rfl, ?_⟩) ?_
            · rintro w' ⟨L, hcl, h0, hS⟩
              have z := hS (closedB_before hcl (i := 1) (by kernel_rfl) h0)
              clear hS hcl h0
              go_simp
            simp only [Act.put, List.getElem_toArray, List.getElem_cons_zero, List.getElem_cons_succ, List.setIfInBounds_toArray, List.set_cons_zero, List.set_cons_succ]
            refine wpAnyL_take (i := 2) (v := .int .u64 N) (fuel := 7) rfl (by kernel_rfl) (by kernel_rfl) (by kernel_rfl) (by kernel_rfl) (fun _ _ _ h => h) (fun L w' => by rw [getD_set_ne true (by omega)]) (fun _ => HS.out _ b0) (.inl ⟨by rfl, ?_⟩) ?_
            · rintro w' ⟨L, hcl, h0, hS⟩
              have z := hS (closedB_before hcl (i := 2) (by kernel_rfl) h0)
              clear hS hcl h0
              go_simp
            simp only [Act.put, List.getElem_toArray, List.getElem_cons_zero, List.getElem_cons_succ, List.setIfInBounds_toArray, List.set_cons_zero, List.set_cons_succ]
            refine wpAnyL_take (i := 3) (v := .int .i64 24) (fuel := 6) rfl (by kernel_rfl) (by kernel_rfl) (by kernel_rfl) (by kernel_rfl) (fun _ _ _ h => h) (fun L w' => by rw [getD_set_ne true (by omega)]) (fun _ => HS.out _ b0) (.inl ⟨by rfl, ?_⟩) ?_
            · rintro w' ⟨L, hcl, h0, hS⟩
              have z := hS (closedB_before hcl (i := 3) (by kernel_rfl) h0)
              clear hS hcl h0
              go_simp
            simp only [Act.put, List.getElem_toArray, List.getElem_cons_zero, List.getElem_cons_succ, List.setIfInBounds_toArray, List.set_cons_zero, List.set_cons_succ]
            refine wpAnyL_take (i := 4) (v := .int .u64 ((N : Int) / 16777216)) (fuel := 5) rfl (by kernel_rfl) (by kernel_rfl) (by kernel_rfl) (by kernel_rfl) (fun _ _ _ h => h) (fun L w' => by rw [getD_set_ne true (by omega)]) (fun _ => HS.out _ b0) (.inl ⟨by rfl, ?_⟩) ?_
            · rintro w' ⟨L, hcl, h0, hS⟩
              have z := hS (closedB_before hcl (i := 4) (by kernel_rfl) h0)
              clear hS hcl h0
              go_simp
            simp only [Act.put, List.getElem_toArray, List.getElem_cons_zero, List.getElem_cons_succ, List.setIfInBounds_toArray, List.set_cons_zero, List.set_cons_succ]
            refine wpAnyL_take (i := 5) (v := .int .u8 b.toNat) (fuel := 4) rfl (by kernel_rfl) (by kernel_rfl) (by kernel_rfl) (by kernel_rfl) (fun _ _ _ h => h) (fun L w' => by rw [getD_set_ne true (by omega)]) (fun _ => HS.out _ b0) (.inl ⟨by rfl, ?_⟩) ?_
            · rintro w' ⟨L, hcl, h0, hS⟩
              have z := hS (closedB_before hcl (i := 5) (by kernel_rfl) h0)
              clear hS hcl h0
              go_simp
            simp only [Act.put, List.getElem_toArray, List.getElem_cons_zero, List.getElem_cons_succ, List.setIfInBounds_toArray, List.set_cons_zero, List.set_cons_succ]
            refine wpAnyL_one (i := 6) (fuel := 3) (by kernel_rfl) rfl (fun K hK => ?_)
            go_simp
            refine hK.out _ _ (fun h => HS.out _ b5) (fun _ => ?_)
            clear hK K
            try simp only [Act.put, List.getElem_toArray, List.getElem_cons_zero, List.getElem_cons_succ, List.setIfInBounds_toArray, List.set_cons_zero, List.set_cons_succ]
            obtain ⟨w5, hw5⟩ : ∃ w5, (wr.alloc (.cells #[.int .u8 b.toNat] 5)).drew = w5 := ⟨_, rfl⟩
            rw [hw5] at hcv hbx b5 ⊢
            refine wpAnyL_one (i := 7) (fuel := 2) (by kernel_rfl) rfl (fun K hK => ?_)
            go_simp
            refine hK.out _ _ (fun h => HS.out _ b5) (fun _ => ?_)
            clear hK K
            try simp only [Act.put, List.getElem_toArray, List.getElem_cons_zero, List.getElem_cons_succ, List.setIfInBounds_toArray, List.set_cons_zero, List.set_cons_succ]
            refine wpAnyL_take (i := 8) (v := .string ⟨(U ++ [b]).toArray⟩) (fuel := 1) rfl (by kernel_rfl) (by kernel_rfl) (by kernel_rfl) (by kernel_rfl) (fun _ _ _ h => h) (fun L w' => by rw [getD_set_ne true (by omega)]) (fun _ => HS.out _ b5) (.inl ⟨by rfl, ?_⟩) ?_
            · rintro w' ⟨L, hcl, h0, hS⟩
              have z := hS (closedB_before hcl (i := 8) (by kernel_rfl) h0)
              clear hS hcl h0
              (go_simp <;> omega)
            simp only [Act.put, List.getElem_toArray, List.getElem_cons_zero, List.getElem_cons_succ, List.setIfInBounds_toArray, List.set_cons_zero, List.set_cons_succ]
            have q1 := hbx.cell
            have q2 := hbx.frozen
            obtain ⟨S1, S2⟩ := StepS.of b5 hbx ⟨(U ++ [b]).toArray⟩
            have HS1 := Lib.hid S1
            have HS2 := Lib.hid S2
            clear S1 S2 hbx hcv hw5
            refine wpAnyL_one (i := 9) (fuel := 0) (by kernel_rfl) rfl (fun K hK => ?_)
            go_simp
            refine hK.out _ _ (fun h => (by cases h)) (fun _ => ?_)
            clear hK K
            try simp only [Act.put, List.getElem_toArray, List.getElem_cons_zero, List.getElem_cons_succ, List.setIfInBounds_toArray, List.set_cons_zero, List.set_cons_succ]
            refine wpAnyL_done (by kernel_rfl) ?_ 0
            gi_wp2
            go_roundw
            case rel => exact ⟨kk + 1, by have := HK.out; omega, by rw [HK.out] <;> rfl, by rw [HK.out, HSN.out]; exact HS2.out, hJ _ _ _ hJ0 HS1.out⟩
            case measure => simp [RowKit.intOf]
          · have HK := Lib.hid hkk
            clear hkk
            rw [show (56 - 8 * ((5 : Nat) : Int)) = 16 from rfl]
            have e1 : IntKind.u8.wrap ((N : Int) / 65536) = (b.toNat : Int) := by rw [IntKind.wrap_u8, ← hdiv]; simp
            gi_wp2
            refine wpIn_wide.2 ?_
            refine wp_region_L (fun L w' => L.getD 9 true = false → w'.cell? ⟨Bn, 0, none⟩ = some (.string ⟨U.toArray⟩)) (by kernel_rfl) ?_
            refine wpAnyL_take (i := 0) (v := .string ⟨U.toArray⟩) (fuel := 9) rfl (by kernel_rfl) (by kernel_rfl) (by kernel_rfl) (by kernel_rfl) (fun _ _ _ h => h) (fun L w' => by rw [getD_set_ne true (by omega)]) (fun _ => HS.out _ b0) (.inl ⟨by rfl, ?_⟩) ?_
            · rintro w' ⟨L, hcl, h0, hS⟩
              have z := hS (closedB_before hcl (i := 0) (by kernel_rfl) h0)
              clear hS hcl h0
              go_simp
            simp only [Act.put, List.getElem_toArray, List.getElem_cons_zero, List.setIfInBounds_toArray, List.set_cons_zero, List.set_cons_succ]
            refine wpAnyL_take (i := 1) (v := .int .u64 s.length) (fuel := 8) rfl (by kernel_rfl) (by kernel_rfl) (by kernel_rfl) (by kernel_rfl) (fun _ _ _ h => h) (fun L w' => by rw [getD_set_ne true (by omega)]) (fun _ => HS.out _ b0) (.inl ⟨by rfl, ?_⟩) ?_
            · rintro w' ⟨L, hcl, h0, hS⟩
              have z := hS (closedB_before hcl (i := 1) (by kernel_rfl) h0)
              clear hS hcl h0
              go_simp
            simp only [Act.put, List.getElem_toArray, List.getElem_cons_zero, List.getElem_cons_succ, List.setIfInBounds_toArray, List.set_cons_zero, List.set_cons_succ]
            refine wpAnyL_take (i := 2) (v := .int .u64 N) (fuel := 7) rfl (by kernel_rfl) (by kernel_rfl) (by kernel_rfl) (by kernel_rfl) (fun _ _ _ h => h) (fun L w' => by rw [getD_set_ne true (by omega)]) (fun _ => HS.out _ b0) (.inl ⟨by rfl, ?_⟩) ?_
            · rintro w' ⟨L, hcl, h0, hS⟩
              have z := hS (closedB_before hcl (i := 2) (by kernel_rfl) h0)
              clear hS hcl h0
              go_simp
            simp only [Act.put, List.getElem_toArray, List.getElem_cons_zero, List.getElem_cons_succ, List.setIfInBounds_toArray, List.set_cons_zero, List.set_cons_succ]
            refine wpAnyL_take (i := 3) (v := .int .i64 16) (fuel := 6) rfl (by kernel_rfl) (by kernel_rfl) (by kernel_rfl) (by kernel_rfl) (fun _ _ _ h => h) (fun L w' => by rw [getD_set_ne true (by omega)]) (fun _ => HS.out _ b0) (.inl ⟨by rfl, ?_⟩) ?_
            · rintro w' ⟨L, hcl, h0, hS⟩
              have z := hS (closedB_before hcl (i := 3) (by kernel_rfl) h0)
              clear hS hcl h0
              go_simp
            simp only [Act.put, List.getElem_toArray, List.getElem_cons_zero, List.getElem_cons_succ, List.setIfInBounds_toArray, List.set_cons_zero, List.set_cons_succ]
            refine wpAnyL_take (i := 4) (v := .int .u64 ((N : Int) / 65536)) (fuel := 5) rfl (by kernel_rfl) (by kernel_rfl) (by kernel_rfl) (by kernel_rfl) (fun _ _ _ h => h) (fun L w' => by rw [getD_set_ne true (by omega)]) (fun _ => HS.out _ b0) (.inl ⟨by rfl, ?_⟩) ?_
            · rintro w' ⟨L, hcl, h0, hS⟩
              have z := hS (closedB_before hcl (i := 4) (by kernel_rfl) h0)
              clear hS hcl h0
              go_simp
            simp only [Act.put, List.getElem_toArray, List.getElem_cons_zero, List.getElem_cons_succ, List.setIfInBounds_toArray, List.set_cons_zero, List.set_cons_succ]
            refine wpAnyL_take (i := 5) (v := .int .u8 b.toNat) (fuel := 4) rfl (by kernel_rfl) (by kernel_rfl) (by kernel_rfl) (by kernel_rfl) (fun _ _ _ h => h) (fun L w' => by rw [getD_set_ne true (by omega)]) (fun _ => HS.out _ b0) (.inl ⟨by rfl, ?_⟩) ?_
            · rintro w' ⟨L, hcl, h0, hS⟩
              have z := hS (closedB_before hcl (i := 5) (by kernel_rfl) h0)
              clear hS hcl h0
              go_simp
            simp only [Act.put, List.getElem_toArray, List.getElem_cons_zero, List.getElem_cons_succ, List.setIfInBounds_toArray, List.set_cons_zero, List.set_cons_succ]
            refine wpAnyL_one (i := 6) (fuel := 3) (by kernel_rfl) rfl (fun K hK => ?_)
            go_simp
            refine hK.out _ _ (fun h => HS.out _ b5) (fun _ => ?_)
            clear hK K
            try simp only [Act.put, List.getElem_toArray, List.getElem_cons_zero, List.getElem_cons_succ, List.setIfInBounds_toArray, List.set_cons_zero, List.set_cons_succ]
            obtain ⟨w5, hw5⟩ : ∃ w5, (wr.alloc (.cells #[.int .u8 b.toNat] 5)).drew = w5 := ⟨_, rfl⟩
            rw [hw5] at hcv hbx b5 ⊢
            refine wpAnyL_one (i := 7) (fuel := 2) (by kernel_rfl) rfl (fun K hK => ?_)
            go_simp
            refine hK.out _ _ (fun h => HS.out _ b5) (fun _ => ?_)
            clear hK K
            try simp only [Act.put, List.getElem_toArray, List.getElem_cons_zero, List.getElem_cons_succ, List.setIfInBounds_toArray, List.set_cons_zero, List.set_cons_succ]
            refine wpAnyL_take (i := 8) (v := .string ⟨(U ++ [b]).toArray⟩) (fuel := 1) rfl (by kernel_rfl) (by kernel_rfl) (by kernel_rfl) (by kernel_rfl) (fun _ _ _ h => h) (fun L w' => by rw [getD_set_ne true (by omega)]) (fun _ => HS.out _ b5) (.inl ⟨by rfl, ?_⟩) ?_
            · rintro w' ⟨L, hcl, h0, hS⟩
              have z := hS (closedB_before hcl (i := 8) (by kernel_rfl) h0)
              clear hS hcl h0
              (go_simp <;> omega)
            simp only [Act.put, List.getElem_toArray, List.getElem_cons_zero, List.getElem_cons_succ, List.setIfInBounds_toArray, List.set_cons_zero, List.set_cons_succ]
            have q1 := hbx.cell
            have q2 := hbx.frozen
            obtain ⟨S1, S2⟩ := StepS.of b5 hbx ⟨(U ++ [b]).toArray⟩
            have HS1 := Lib.hid S1
            have HS2 := Lib.hid S2
            clear S1 S2 hbx hcv hw5
            refine wpAnyL_one (i := 9) (fuel := 0) (by kernel_rfl) rfl (fun K hK => ?_)
            go_simp
            refine hK.out _ _ (fun h => (by cases h)) (fun _ => ?_)
            clear hK K
            try simp only [Act.put, List.getElem_toArray, List.getElem_cons_zero, List.getElem_cons_succ, List.setIfInBounds_toArray, List.set_cons_zero, List.set_cons_succ]
            refine wpAnyL_done (by kernel_rfl) ?_ 0
            gi_wp2
            go_roundw
            case rel => exact ⟨kk + 1, by have := HK.out; omega, by rw [HK.out] <;> rfl, by rw [HK.out, HSN.out]; exact HS2.out, hJ _ _ _ hJ0 HS1.out⟩
            case measure => simp [RowKit.intOf]
          · have HK := Lib.hid hkk
            clear hkk
            rw [show (56 - 8 * ((6 : Nat) : Int)) = 8 from rfl]
            have e1 : IntKind.u8.wrap ((N : Int) / 256) = (b.toNat : Int) := by rw [IntKind.wrap_u8, ← hdiv]; simp
            gi_wp2
            refine wpIn_wide.2 ?_
            refine wp_region_L (fun L w' => L.getD 9 true = false → w'.cell? ⟨Bn, 0, none⟩ = some (.string ⟨U.toArray⟩)) (by kernel_rfl) ?_
            refine wpAnyL_take (i := 0) (v := .string ⟨U.toArray⟩) (fuel := 9) rfl (by kernel_rfl) (by kernel_rfl) (by kernel_rfl) (by kernel_rfl) (fun _ _ _ h => h) (fun L w' => by rw [getD_set_ne true (by omega)]) (fun _ => HS.out _ b0) (.inl ⟨by rfl, ?_⟩) ?_
            · rintro w' ⟨L, hcl, h0, hS⟩
              have z := hS (closedB_before hcl (i := 0) (by kernel_rfl) h0)
              clear hS hcl h0
              go_simp
            simp only [Act.put, List.getElem_toArray, List.getElem_cons_zero, List.setIfInBounds_toArray, List.set_cons_zero, List.set_cons_succ]
            refine wpAnyL_take (i := 1) (v := .int .u64 s.length) (fuel := 8) rfl (by kernel_rfl) (by kernel_rfl) (by kernel_rfl) (by kernel_rfl) (fun _ _ _ h => h) (fun L w' => by rw [getD_set_ne true (by omega)]) (fun _ => HS.out _ b0) (.inl ⟨by rfl, ?_⟩) ?_
            · rintro w' ⟨L, hcl, h0, hS⟩
              have z := hS (closedB_before hcl (i := 1) (by kernel_rfl) h0)
              clear hS hcl h0
              go_simp
            simp only [Act.put, List.getElem_toArray, List.getElem_cons_zero, List.getElem_cons_succ, List.setIfInBounds_toArray, List.set_cons_zero, List.set_cons_succ]
            refine wpAnyL_take (i := 2) (v := .int .u64 N) (fuel := 7) rfl (by kernel_rfl) (by kernel_rfl) (by kernel_rfl) (by kernel_rfl) (fun _ _ _ h => h) (fun L w' => by rw [getD_set_ne true (by omega)]) (fun _ => HS.out _ b0) (.inl ⟨by rfl, ?_⟩) ?_
            · rintro w' ⟨L, hcl, h0, hS⟩
              have z := hS (closedB_before hcl (i := 2) (by kernel_rfl) h0)
              clear hS hcl h0
              go_simp
            simp only [Act.put, List.getElem_toArray, List.getElem_cons_zero, List.getElem_cons_succ, List.setIfInBounds_toArray, List.set_cons_zero, List.set_cons_succ]
            refine wpAnyL_take (i := 3) (v := .int .i64 8) (fuel := 6) rfl (by kernel_rfl) (by kernel_rfl) (by kernel_rfl) (by kernel_rfl) (fun _ _ _ h => h) (fun L w' => by rw [getD_set_ne true (by omega)]) (fun _ => HS.out _ b0) (.inl ⟨by rfl, ?_⟩) ?_
            · rintro w' ⟨L, hcl, h0, hS⟩
              have z := hS (closedB_before hcl (i := 3) (by kernel_rfl) h0)
              clear hS hcl h0
              go_simp
            simp only [Act.put, List.getElem_toArray, List.getElem_cons_zero, List.getElem_cons_succ, List.setIfInBounds_toArray, List.set_cons_zero, List.set_cons_succ]
            refine wpAnyL_take (i := 4) (v := .int .u64 ((N : Int) / 256)) (fuel := 5) rfl (by kernel_rfl) (by kernel_rfl) (by kernel_rfl) (by kernel_rfl) (fun _ _ _ h => h) (fun L w' => by rw [getD_set_ne true (by omega)]) (fun _ => HS.out _ b0) (.inl ⟨by rfl, ?_⟩) ?_
            · rintro w' ⟨L, hcl, h0, hS⟩
              have z := hS (closedB_before hcl (i := 4) (by kernel_rfl) h0)
              clear hS hcl h0
              go_simp
            simp only [Act.put, List.getElem_toArray, List.getElem_cons_zero, List.getElem_cons_succ, List.setIfInBounds_toArray, List.set_cons_zero, List.set_cons_succ]
            refine wpAnyL_take (i := 5) (v := .int .u8 b.toNat) (fuel := 4) rfl (by kernel_rfl) (by kernel_rfl) (by kernel_rfl) (by kernel_rfl) (fun _ _ _ h => h) (fun L w' => by rw [getD_set_ne true (by omega)]) (fun _ => HS.out _ b0) (.inl ⟨by rfl, ?_⟩) ?_
            · rintro w' ⟨L, hcl, h0, hS⟩
              have z := hS (closedB_before hcl (i := 5) (by kernel_rfl) h0)
              clear hS hcl h0
              go_simp
            simp only [Act.put, List.getElem_toArray, List.getElem_cons_zero, List.getElem_cons_succ, List.setIfInBounds_toArray, List.set_cons_zero, List.set_cons_succ]
            refine wpAnyL_one (i := 6) (fuel := 3) (by kernel_rfl) rfl (fun K hK => ?_)
            go_simp
            refine hK.out _ _ (fun h => HS.out _ b5) (fun _ => ?_)
            clear hK K
            try simp only [Act.put, List.getElem_toArray, List.getElem_cons_zero, List.getElem_cons_succ, List.setIfInBounds_toArray, List.set_cons_zero, List.set_cons_succ]
            obtain ⟨w5, hw5⟩ : ∃ w5, (wr.alloc (.cells #[.int .u8 b.toNat] 5)).drew = w5 := ⟨_, rfl⟩
            rw [hw5] at hcv hbx b5 ⊢
            refine wpAnyL_one (i := 7) (fuel := 2) (by kernel_rfl) rfl (fun K hK => ?_)
            go_simp
            refine hK.out _ _ (fun h => HS.out _ b5) (fun _ => ?_)
            clear hK K
            try simp only [Act.put, List.getElem_toArray, List.getElem_cons_zero, List.getElem_cons_succ, List.setIfInBounds_toArray, List.set_cons_zero, List.set_cons_succ]
            refine wpAnyL_take (i := 8) (v := .string ⟨(U ++ [b]).toArray⟩) (fuel := 1) rfl (by kernel_rfl) (by kernel_rfl) (by kernel_rfl) (by kernel_rfl) (fun _ _ _ h => h) (fun L w' => by rw [getD_set_ne true (by omega)]) (fun _ => HS.out _ b5) (.inl ⟨by rfl, ?_⟩) ?_
            · rintro w' ⟨L, hcl, h0, hS⟩
              have z := hS (closedB_before hcl (i := 8) (by kernel_rfl) h0)
              clear hS hcl h0
              (go_simp <;> omega)
            simp only [Act.put, List.getElem_toArray, List.getElem_cons_zero, List.getElem_cons_succ, List.setIfInBounds_toArray, List.set_cons_zero, List.set_cons_succ]
            have q1 := hbx.cell
            have q2 := hbx.frozen
            obtain ⟨S1, S2⟩ := StepS.of b5 hbx ⟨(U ++ [b]).toArray⟩
            have HS1 := Lib.hid S1
            have HS2 := Lib.hid S2
            clear S1 S2 hbx hcv hw5
            refine wpAnyL_one (i := 9) (fuel := 0) (by kernel_rfl) rfl (fun K hK => ?_)
            go_simp
            refine hK.out _ _ (fun h => (by cases h)) (fun _ => ?_)
            clear hK K
            try simp only [Act.put, List.getElem_toArray, List.getElem_cons_zero, List.getElem_cons_succ, List.setIfInBounds_toArray, List.set_cons_zero, List.set_cons_succ]
            refine wpAnyL_done (by kernel_rfl) ?_ 0
            gi_wp2
            go_roundw
            case rel => exact ⟨kk + 1, by have := HK.out; omega, by rw [HK.out] <;> rfl, by rw [HK.out, HSN.out]; exact HS2.out, hJ _ _ _ hJ0 HS1.out⟩
            case measure => simp [RowKit.intOf]
          · have HK := Lib.hid hkk
            clear hkk
            rw [show (56 - 8 * ((7 : Nat) : Int)) = 0 from rfl]
            have e1 : IntKind.u8.wrap ((N : Int)) = (b.toNat : Int) := by rw [IntKind.wrap_u8, ← hdiv]; simp
            gi_wp2
            refine wpIn_wide.2 ?_
            refine wp_region_L (fun L w' => L.getD 9 true = false → w'.cell? ⟨Bn, 0, none⟩ = some (.string ⟨U.toArray⟩)) (by kernel_rfl) ?_
            refine wpAnyL_take (i := 0) (v := .string ⟨U.toArray⟩) (fuel := 9) rfl (by kernel_rfl) (by kernel_rfl) (by kernel_rfl) (by kernel_rfl) (fun _ _ _ h => h) (fun L w' => by rw [getD_set_ne true (by omega)]) (fun _ => HS.out _ b0) (.inl ⟨by rfl, ?_⟩) ?_
            · rintro w' ⟨L, hcl, h0, hS⟩
              have z := hS (closedB_before hcl (i := 0) (by kernel_rfl) h0)
              clear hS hcl h0
              go_simp
            simp only [Act.put, List.getElem_toArray, List.getElem_cons_zero, List.setIfInBounds_toArray, List.set_cons_zero, List.set_cons_succ]
            refine wpAnyL_take (i := 1) (v := .int .u64 s.length) (fuel := 8) rfl (by kernel_rfl) (by kernel_rfl) (by kernel_rfl) (by kernel_rfl) (fun _ _ _ h => h) (fun L w' => by rw [getD_set_ne true (by omega)]) (fun _ => HS.out _ b0) (.inl ⟨by rfl, ?_⟩) ?_
            · rintro w' ⟨L, hcl, h0, hS⟩
              have z := hS (closedB_before hcl (i := 1) (by kernel_rfl) h0)
              clear hS hcl h0
              go_simp
            simp only [Act.put, List.getElem_toArray, List.getElem_cons_zero, List.getElem_cons_succ, List.setIfInBounds_toArray, List.set_cons_zero, List.set_cons_succ]
            refine wpAnyL_take (i := 2) (v := .int .u64 N) (fuel := 7) rfl (by kernel_rfl) (by kernel_rfl) (by kernel_rfl) (by kernel_rfl) (fun _ _ _ h => h) (fun L w' => by rw [getD_set_ne true (by omega)]) (fun _ => HS.out _ b0) (.inl ⟨by rfl, ?_⟩) ?_
            · rintro w' ⟨L, hcl, h0, hS⟩
              have z := hS (closedB_before hcl (i := 2) (by kernel_rfl) h0)
              clear hS hcl h0
              go_simp
            simp only [Act.put, List.getElem_toArray, List.getElem_cons_zero, List.getElem_cons_succ, List.setIfInBounds_toArray, List.set_cons_zero, List.set_cons_succ]
            refine wpAnyL_take (i := 3) (v := .int .i64 0) (fuel := 6) rfl (by kernel_rfl) (by kernel_rfl) (by kernel_rfl) (by kernel_rfl) (fun _ _ _ h => h) (fun L w' => by rw [getD_set_ne true (by omega)]) (fun _ => HS.out _ b0) (.inl ⟨by rfl, ?_⟩) ?_
            · rintro w' ⟨L, hcl, h0, hS⟩
              have z := hS (closedB_before hcl (i := 3) (by kernel_rfl) h0)
              clear hS hcl h0
              go_simp
            simp only [Act.put, List.getElem_toArray, List.getElem_cons_zero, List.getElem_cons_succ, List.setIfInBounds_toArray, List.set_cons_zero, List.set_cons_succ]
            refine wpAnyL_take (i := 4) (v := .int .u64 (N : Int)) (fuel := 5) rfl (by kernel_rfl) (by kernel_rfl) (by kernel_rfl) (by kernel_rfl) (fun _ _ _ h => h) (fun L w' => by rw [getD_set_ne true (by omega)]) (fun _ => HS.out _ b0) (.inl ⟨by rfl, ?_⟩) ?_
            · rintro w' ⟨L, hcl, h0, hS⟩
              have z := hS (closedB_before hcl (i := 4) (by kernel_rfl) h0)
              clear hS hcl h0
              go_simp
            simp only [Act.put, List.getElem_toArray, List.getElem_cons_zero, List.getElem_cons_succ, List.setIfInBounds_toArray, List.set_cons_zero, List.set_cons_succ]
            refine wpAnyL_take (i := 5) (v := .int .u8 b.toNat) (fuel := 4) rfl (by kernel_rfl) (by kernel_rfl) (by kernel_rfl) (by kernel_rfl) (fun _ _ _ h => h) (fun L w' => by rw [getD_set_ne true (by omega)]) (fun _ => HS.out _ b0) (.inl ⟨by rfl, ?_⟩) ?_
            · rintro w' ⟨L, hcl, h0, hS⟩
              have z := hS (closedB_before hcl (i := 5) (by kernel_rfl) h0)
              clear hS hcl h0
              go_simp
            simp only [Act.put, List.getElem_toArray, List.getElem_cons_zero, List.getElem_cons_succ, List.setIfInBounds_toArray, List.set_cons_zero, List.set_cons_succ]
            refine wpAnyL_one (i := 6) (fuel := 3) (by kernel_rfl) rfl (fun K hK => ?_)
            go_simp
            refine hK.out _ _ (fun h => HS.out _ b5) (fun _ => ?_)
            clear hK K
            try simp only [Act.put, List.getElem_toArray, List.getElem_cons_zero, List.getElem_cons_succ, List.setIfInBounds_toArray, List.set_cons_zero, List.set_cons_succ]
            obtain ⟨w5, hw5⟩ : ∃ w5, (wr.alloc (.cells #[.int .u8 b.toNat] 5)).drew = w5 := ⟨_, rfl⟩
            rw [hw5] at hcv hbx b5 ⊢
            refine wpAnyL_one (i := 7) (fuel := 2) (by kernel_rfl) rfl (fun K hK => ?_)
            go_simp
            refine hK.out _ _ (fun h => HS.out _ b5) (fun _ => ?_)
            clear hK K
            try simp only [Act.put, List.getElem_toArray, List.getElem_cons_zero, List.getElem_cons_succ, List.setIfInBounds_toArray, List.set_cons_zero, List.set_cons_succ]
            refine wpAnyL_take (i := 8) (v := .string ⟨(U ++ [b]).toArray⟩) (fuel := 1) rfl (by kernel_rfl) (by kernel_rfl) (by kernel_rfl) (by kernel_rfl) (fun _ _ _ h => h) (fun L w' => by rw [getD_set_ne true (by omega)]) (fun _ => HS.out _ b5) (.inl ⟨by rfl, ?_⟩) ?_
            · rintro w' ⟨L, hcl, h0, hS⟩
              have z := hS (closedB_before hcl (i := 8) (by kernel_rfl) h0)
              clear hS hcl h0
              (go_simp <;> omega)
            simp only [Act.put, List.getElem_toArray, List.getElem_cons_zero, List.getElem_cons_succ, List.setIfInBounds_toArray, List.set_cons_zero, List.set_cons_succ]
            have q1 := hbx.cell
            have q2 := hbx.frozen
            obtain ⟨S1, S2⟩ := StepS.of b5 hbx ⟨(U ++ [b]).toArray⟩
            have HS1 := Lib.hid S1
            have HS2 := Lib.hid S2
            clear S1 S2 hbx hcv hw5
            refine wpAnyL_one (i := 9) (fuel := 0) (by kernel_rfl) rfl (fun K hK => ?_)
            go_simp
            refine hK.out _ _ (fun h => (by cases h)) (fun _ => ?_)
            clear hK K
            try simp only [Act.put, List.getElem_toArray, List.getElem_cons_zero, List.getElem_cons_succ, List.setIfInBounds_toArray, List.set_cons_zero, List.set_cons_succ]
            refine wpAnyL_done (by kernel_rfl) ?_ 0
            gi_wp2
            go_roundw
            case rel => exact ⟨kk + 1, by have := HK.out; omega, by rw [HK.out] <;> rfl, by rw [HK.out, HSN.out]; exact HS2.out, hJ _ _ _ hJ0 HS1.out⟩
            case measure => simp [RowKit.intOf]
        · obtain rfl : k = 8 := by omega
          have hfed : Fed pre U (pad s) := by
            obtain ⟨h1, h2, h3⟩ := HP.out
            obtain ⟨h4, h5, h6⟩ := HBL.out
            refine ⟨h2, ?_⟩
            rw [← hU, ← List.append_assoc, h1, List.take_of_length_le (by omega), ← h4, ← h5]
            unfold pad padTail
            rw [Nat.mod_eq_of_lt (a := 8 * s.length) (by omega)]
            simp
          have hpl : (pad s).length % 64 = 0 := by
            unfold pad padTail
            rw [List.length_append, List.length_cons, List.length_append, List.length_replicate, be_length]
            omega
          have HFed := Lib.hid hfed
          clear hfed hc hf hU hUl HTL HP HBL
          rw [show (56 - 8 * ((8 : Nat) : Int)) = -8 from rfl]
          gi_wp2
          gi_loopw [39] (fun _ wr => ∃ pre rest, Boxed wr Bn 9 (.string ⟨rest.toArray⟩) ∧ J pre wr ∧ Hid (Fed pre rest (pad s))) (fun _ wr => boxLenS wr Bn)
          case atStart => exact ⟨pre, U, hb, hJ0, HFed⟩
          case round =>
            obtain ⟨pre, rest, hb, hJ0, HF⟩ := hrel
            have hc := hb.cell
            cases rest with
            | nil =>
              gi_wp2
              go_end0
              exact ⟨⟨_, rfl⟩, .inl ⟨pre, HF.out.done, hJ0⟩⟩
            | cons c r =>
              have hne : (c :: r).isEmpty = false := rfl
              have hm := HF.out.1.len
              have hsum := congrArg List.length HF.out.2
              rw [List.length_append] at hsum
              have h64 : 64 ≤ (c :: r).length := by
                have : 0 < (c :: r).length := by simp
                omega
              obtain ⟨t, ht⟩ : ∃ t, c :: r = t := ⟨_, rfl⟩
              rw [ht] at hb hc HF hne hsum h64
              have g2 : (64 : Int) ≤ t.length := by omega
              have e3 : (⟨t.toArray⟩ : ByteArray).extract 0 64 = ⟨(t.take 64).toArray⟩ := by rw [ext_mkS]; rfl
              have e4 : (⟨t.toArray⟩ : ByteArray).extract 64 t.length = ⟨(t.drop 64).toArray⟩ := by rw [ext_mkS, List.take_length]
              obtain ⟨f1, t1, a1, b1, hy1, hR1⟩ := hY pre (t.take 64) wr hJ0 (by rw [List.length_take]; omega)
              have HB := Lib.hid hb
              have HF2 := Lib.hid (HF.out.step h64)
              have hlt : (t.drop 64).length < t.length := by rw [List.length_drop]; omega
              obtain ⟨x, hx⟩ : ∃ x, t.take 64 = x := ⟨_, rfl⟩
              obtain ⟨y, hy⟩ : ∃ y, t.drop 64 = y := ⟨_, rfl⟩
              rw [hx] at e3 hy1 hR1 HF2
              rw [hy] at e4 HF2 hlt
              clear hx hy hb ht hsum hm
              simp only [encS] at hy1
              gi_wp2
              refine hR1.mono ?_
              clear hy1
              rintro e W1 (⟨rfl, hJ1, hk1⟩ | ⟨rfl, hx1⟩)
              · have hb2 : Boxed W1 Bn 9 (.string ⟨t.toArray⟩) := hk1.trans HB.out
                have hc2 := hb2.cell
                have hf2 := hb2.frozen
                obtain ⟨S1, S2⟩ := StepS.of (Below.refl W1.heap.size W1) hb2 ⟨y.toArray⟩
                have HS1 := Lib.hid S1
                have HS2 := Lib.hid S2
                clear hb2 hk1 S1 S2 hc
                gi_wp2
                go_roundw
                case rel => exact ⟨_, y, HS2.out, hJ _ _ _ hJ1 HS1.out, HF2⟩
                case measure => rw [boxLenS_of HS2.out, boxLenS_of HB.out, size_mkS, size_mkS]; exact hlt
              · gi_wp2
                refine bodyPost_ret (results_none rfl _ _ _) rfl ?_
                exact ⟨⟨_, rfl⟩, .inr ⟨_, hx1⟩⟩
end Go.Proofs.YtpfmdhcmhcoddaaGreatDoor
