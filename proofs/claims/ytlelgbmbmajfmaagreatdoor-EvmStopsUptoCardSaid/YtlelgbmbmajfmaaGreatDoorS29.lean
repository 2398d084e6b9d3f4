/- What the walks take: StaA, StaB, StaC, StaD, BalA. -/
import Derived.Test.YtlelgbmbmajfmaaGreatDoorS10
import Derived.Test.YtlelgbmbmajfmaaGreatDoorS25
import Derived.Test.YtlelgbmbmajfmaaGreatDoorS26
import Derived.Test.YtlelgbmbmajfmaaGreatDoorS28
namespace Go.Proofs.YtlelgbmbmajfmaaGreatDoor
open Go.RowKit Go.Shelf Go.Lib
attribute [local go_sem] Oper.semAt_some
/-- what is known of an address -/
structure KnE where
  addr : ByteArray
  there : Bool
  nonce : Nat
  bal : Nat
  root : ByteArray
  hash : ByteArray
  has : Bool
  code : ByteArray
  cells : Value
def kcells (k : KnE) : List Value := [.string k.addr, .bool k.there, .int .u64 k.nonce, .int .u64 (limb k.bal 0), .int .u64 (limb k.bal 1), .int .u64 (limb k.bal 2), .int .u64 (limb k.bal 3), .string k.root, .string k.hash, .bool k.has, .string k.code, k.cells]
def KnOk (k : KnE) : Prop := ∃ p n c, k.cells = .slice p n c
theorem kcells_one {k : KnE} (h : KnOk k) : (kcells k).toArray.all (·.oneCell') = true := by
  obtain ⟨p, n, c, hc⟩ := h
  unfold kcells
  rw [hc]
  simp [Value.oneCell']
theorem infoKn : (Tryz.prog.info? 52).map (·.size) = some 12 := by kernel_rfl
abbrev ElK := Nat × KnE
def encK (x : ElK) : Array Value := #[.int .i64 x.1, .agg (kcells x.2).toArray]
/-- the elements from the last one down to number m -/
def revK (L : List KnE) (m : Nat) : List ElK := ((L.zipIdx.drop m).reverse).map fun x => (x.2, x.1)
theorem revK_all (L : List KnE) : revK L L.length = [] := by unfold revK; rw [List.drop_of_length_le (by simp)]; rfl
theorem revK_step {L : List KnE} {i : Nat} {k : KnE} (h : L[i]? = some k) : revK L i = revK L (i + 1) ++ [(i, k)] := by
  unfold revK
  obtain ⟨hi, hk⟩ := List.getElem?_eq_some_iff.1 h
  rw [List.drop_eq_getElem_cons (by simpa using hi), List.reverse_cons, List.map_append, List.getElem_zipIdx]
  simp [hk]
def GoodK (L : List KnE) (pre : List ElK) (x : ElK) (_ _ : World) : Prop := L[x.1]? = some x.2 ∧ pre = revK L (x.1 + 1)
theorem flat_at (L : List KnE) {i : Nat} {k : KnE} (h : L[i]? = some k) {W : World} {b : Nat} (hr : W.rangeAt b 0 (L.flatMap kcells)) : W.rangeAt b (i * 12) (kcells k) := by
  intro j u hj
  have hlen : ∀ x : KnE, (kcells x).length = 12 := fun _ => rfl
  have hj12 : j < 12 := by have := (List.getElem?_eq_some_iff.1 hj).1; rwa [hlen] at this
  have key : ∀ (M : List KnE) (i : Nat), M[i]? = some k → (M.flatMap kcells)[i * 12 + j]? = some u := by
    intro M
    induction M with
    | nil => intro i h; cases h
    | cons a t ih =>
      intro i h
      rw [List.flatMap_cons]
      cases i with
      | zero =>
        cases h
        rw [List.getElem?_append_left (by rw [hlen]; omega), Nat.zero_mul, Nat.zero_add]
        exact hj
      | succ i =>
        rw [List.getElem?_append_right (by rw [hlen]; omega), hlen, show (i + 1) * 12 + j - 12 = i * 12 + j from by omega]
        exact ih i h
  have := hr (i * 12 + j) u (key L i h)
  rwa [Nat.zero_add] at this
set_option maxRecDepth 100000 in
set_option maxHeartbeats 6400000 in
theorem backK_body (n : Nat) (hn : 1 ≤ n) (l Bn b c : Nat) (L : List KnE) (hL : L.length ≤ c) (h63 : L.length ≤ 1099511627776) (S : Nat → Prop) (hSb : S b) (hSB : S Bn) (J Jx : List ElK → World → Prop)
    (hY : ∀ pre x W0 W1, J pre W0 → W0 = W1 → GoodK L pre x W0 W1 → YieldAt Fence.wide (n - 1) Tryz.prog l (encK x) W1 fun e W' =>
      (e = .returned (.bool true) ∧ J (pre ++ [x]) W' ∧ KeepS S W1 W') ∨ (e = .returned (.bool false) ∧ Jx (pre ++ [x]) W'))
    (W : World) (hb : HasCells W Bn [.slice (some ⟨b, 0, none⟩) L.length c] 54) (hR : W.rangeAt b 0 (L.flatMap kcells)) (h0 : J [] W) :
    CallsIn Fence.wide n Tryz.prog 82 #[.func (.yield l) #[] #[], .pointer (some ⟨Bn, 0, none⟩)] W fun e W' => (∃ v, e = .returned v) ∧
      ((∃ xs, xs = revK L 0 ∧ J xs W') ∨ (∃ pre, True ∧ Jx pre W')) := by
  have HR0 := Lib.hid hR
  have HB0 := Lib.hid hb
  have c1 := hb.cell (j := 0) rfl
  obtain ⟨N, hN⟩ : ∃ N, L.length = N := ⟨_, rfl⟩
  have HNN := Lib.hid hN
  have HLC := Lib.hid hL
  rw [hN] at c1 h63
  have k0 : IntKind.i64.wrap ((N : Int) - 1) = (N : Int) - 1 := by rw [IntKind.wrap_i64]; omega
  clear hR hb hN hL
  refine callsIn_of_wp Tryz.func82 rfl trivial ?_ rfl
  simp only [Tryz.ntmps82, List.size_toArray, List.length_cons, List.length_nil, Nat.reduceAdd, Nat.reduceSub, Array.replicate_succ, Array.replicate_zero, List.push_toArray, List.append_toArray, List.nil_append, List.cons_append]
  gi_wp2
  clear c1
  gi_loopw [3] (fun iv wr => ∃ (m : Nat) (z : Int) (pre : List ElK), iv = .int .i64 z ∧ J pre wr ∧ Hid (m ≤ N) ∧ Hid (z = (m : Int) - 1) ∧ Hid (pre = revK L m) ∧ Hid (wr.rangeAt b 0 (L.flatMap kcells)) ∧ Hid (HasCells wr Bn [.slice (some ⟨b, 0, none⟩) L.length c] 54)) (fun iv wr => (RowKit.intOf iv + 1).toNat)
  case atStart => exact ⟨N, _, [], rfl, h0, Lib.hid (Nat.le_refl _), Lib.hid rfl, Lib.hid (by rw [← HNN.out]; exact (revK_all L).symm), HR0, HB0⟩
  case round =>
    obtain ⟨m, z, pre, rfl, hJ0, HM, HZ, HPR, HRA, HBX⟩ := hrel
    have hz := HZ.out
    have hm := HM.out
    cases m with
    | zero =>
      have g1 : ¬ ((0 : Int) ≤ z) := by omega
      clear hz
      gi_wp2
      go_end0
      exact ⟨⟨_, rfl⟩, .inl (HPR.out ▸ hJ0)⟩
    | succ i =>
      obtain rfl : z = (i : Int) := by omega
      clear hz
      have g1 : (0 : Int) ≤ i := by omega
      have g2 : (i : Int) < N := by omega
      have g3 : IntKind.i64.wrap ((i : Int) - 1) = (i : Int) - 1 := by rw [IntKind.wrap_i64]; omega
      have c2 := HBX.out.cell (j := 0) rfl
      rw [HNN.out] at c2
      obtain ⟨k, hk⟩ : ∃ k, L[i]? = some k := ⟨_, List.getElem?_eq_getElem (by rw [HNN.out]; omega)⟩
      have HKN := Lib.hid hk
      have HRK := Lib.hid (flat_at L hk HRA.out)
      obtain ⟨f1, t1, a1, b1, hy1, hR1⟩ := hY pre (i, k) wr wr hJ0 rfl ⟨hk, HPR.out⟩
      simp only [encK] at hy1
      have HR1 := Lib.hid hR1
      have HNX := Lib.hid (show pre ++ [(i, k)] = revK L i from by rw [revK_step hk, HPR.out])
      clear hk hR1
      gi_wp2_with ((with_reducible refine load_gateI 52 ?_); refine wpListIn_load_midI rfl 52 _ rfl b (i * 12) rfl (kcells k) _ HRK.out Tryz.underlying52 rfl infoKn ?_)
      refine HR1.out.mono ?_
      rintro e W1 (⟨rfl, hJ1, hk1⟩ | ⟨rfl, hx1⟩)
      · gi_wp2
        go_roundw
        case rel => exact ⟨i, (i : Int) - 1, pre ++ [(i, k)], rfl, hJ1, Lib.hid (by omega), Lib.hid rfl, HNX, Lib.hid (fun j u hj => by
          have h1 := HRA.out j u hj
          unfold World.cell? at h1 ⊢
          rw [hk1.2 b hSb]
          exact h1), Lib.hid (HBX.out.kept (hk1.2 Bn hSB))⟩
        case measure => simp [RowKit.intOf]
      · gi_wp2
        refine bodyPost_ret (results_none rfl _ _ _) rfl ?_
        exact ⟨⟨_, rfl⟩, .inr ⟨_, trivial, hx1⟩⟩
end Go.Proofs.YtlelgbmbmajfmaaGreatDoor

namespace Go.Proofs.YtlelgbmbmajfmaaGreatDoor
open Go.RowKit Go.Shelf Go.Lib
attribute [local go_sem] Oper.semAt_some
def IsSpot : Value → Prop := fun v => ∃ (a : ByteArray) (k : Nat), v = .agg #[.string a, .int .u64 (limb k 0), .int .u64 (limb k 1), .int .u64 (limb k 2), .int .u64 (limb k 3)]
/-- a map's function on texts -/
def strF (F : ByteArray → Option Value) : Value → Option Value := fun v => match v with
  | .string a => F a
  | _ => none
open Classical in
noncomputable def setF {α β : Type} (F : α → Option β) (a : α) (b : β) : α → Option β := fun x => if x = a then some b else F x
theorem setF_same {α β : Type} (F : α → Option β) (a : α) (b : β) : setF F a b a = some b := by unfold setF; exact if_pos rfl
theorem setF_other {α β : Type} (F : α → Option β) {a x : α} (b : β) (h : x ≠ a) : setF F a b x = F x := by unfold setF; exact if_neg h
theorem updV_str (F : ByteArray → Option Value) (a : ByteArray) (v : Value) : updV (strF F) (.string a) v = strF (setF F a v) := by
  funext x
  by_cases h : x = .string a
  · subst h
    rw [updV_same]
    exact (setF_same F a v).symm
  · rw [updV_other _ _ _ h]
    cases x with
    | string b => exact (setF_other F v (fun e => h (by rw [e]))).symm
    | _ => rfl
def knV (F : ByteArray → Option KnE) : ByteArray → Option Value := fun a => (F a).map fun k => .agg (kcells k).toArray
def wdV (F : ByteArray → Option Nat) : ByteArray → Option Value := fun a => (F a).map fun v => .agg #[.int .u64 (limb v 0), .int .u64 (limb v 1), .int .u64 (limb v 2), .int .u64 (limb v 3)]
theorem knV_set (F : ByteArray → Option KnE) (a : ByteArray) (k : KnE) : setF (knV F) a (.agg (kcells k).toArray) = knV (setF F a k) := by
  funext x
  by_cases h : x = a
  · subst h
    rw [setF_same]
    unfold knV
    rw [setF_same]
    rfl
  · rw [setF_other _ _ h]
    unfold knV
    rw [setF_other _ _ h]
theorem wdV_set (F : ByteArray → Option Nat) (a : ByteArray) (v : Nat) : setF (wdV F) a (.agg #[.int .u64 (limb v 0), .int .u64 (limb v 1), .int .u64 (limb v 2), .int .u64 (limb v 3)]) = wdV (setF F a v) := by
  funext x
  by_cases h : x = a
  · subst h
    rw [setF_same]
    unfold wdV
    rw [setF_same]
    rfl
  · rw [setF_other _ _ h]
    unfold wdV
    rw [setF_other _ _ h]
/-- what a state knows -/
structure StE where
  kn : ByteArray → Option KnE
  bl : ByteArray → Option Nat
  sv : Value → Option Value
  br : Value → Option Value
  wm : Value → Option Value
  cl : Value → Option Value
  logs : Value
  undo : Value
def stC (B : Nat) (S : StE) : List Value := [.map (some B), .map (some (B + 1)), .map (some (B + 2)), .map (some (B + 3)), .map (some (B + 4)), .map (some (B + 5)), S.logs, S.undo]
/-- a state lies behind the six maps -/
structure StAt (B : Nat) (w : World) (S : StE) : Prop where
  cells : HasCells w (B + 6) (stC B S) 105
  kn : MapV IsStr w B (strF (knV S.kn))
  bl : MapV IsStr w (B + 1) (strF (wdV S.bl))
  sv : MapV IsSpot w (B + 2) S.sv
  br : MapV IsSpot w (B + 3) S.br
  wm : MapV IsStr w (B + 4) S.wm
  cl : MapV IsSpot w (B + 5) S.cl
theorem StAt.lt {B : Nat} {w : World} {S : StE} (h : StAt B w S) : B + 6 < w.heap.size := h.cells.lt
theorem StAt.kept {B : Nat} {w w' : World} {S : StE} (h : StAt B w S) (hb : ∀ k, B ≤ k → k ≤ B + 6 → w'.heap[k]? = w.heap[k]?) : StAt B w' S :=
  ⟨h.cells.kept (hb _ (by omega) (by omega)), h.kn.kept (hb _ (by omega) (by omega)), h.bl.kept (hb _ (by omega) (by omega)), h.sv.kept (hb _ (by omega) (by omega)), h.br.kept (hb _ (by omega) (by omega)), h.wm.kept (hb _ (by omega) (by omega)), h.cl.kept (hb _ (by omega) (by omega))⟩
theorem StAt.below {B C : Nat} {w w' : World} {S : StE} (h : StAt B w S) (hC : B + 6 < C) (hb : Below C w w') : StAt B w' S := h.kept fun k _ h2 => hb.block k (by omega)
theorem StAt.after {B : Nat} {w w' : World} {S : StE} (h : StAt B w S) (hb : Below w.heap.size w w') : StAt B w' S := h.below h.lt hb
/-- what is known, put in one after the other -/
noncomputable def knF (xs : List ElK) : ByteArray → Option KnE := xs.foldl (fun F x => setF F x.2.addr x.2) (fun _ => none)
noncomputable def blF (xs : List ElK) : ByteArray → Option Nat := xs.foldl (fun F x => if x.2.there then setF (setF F x.2.addr 0) x.2.addr x.2.bal else setF F x.2.addr 0) (fun _ => none)
theorem knF_step (xs : List ElK) (x : ElK) : knF (xs ++ [x]) = setF (knF xs) x.2.addr x.2 := by unfold knF; rw [List.foldl_append]; rfl
theorem blF_step (xs : List ElK) (x : ElK) : blF (xs ++ [x]) = if x.2.there then setF (setF (blF xs) x.2.addr 0) x.2.addr x.2.bal else setF (blF xs) x.2.addr 0 := by unfold blF; rw [List.foldl_append]; rfl
noncomputable def preS (xs : List ElK) : StE := ⟨knF xs, blF xs, fun _ => none, fun _ => none, fun _ => none, fun _ => none, .slice none 0 0, .slice none 0 0⟩
noncomputable def newS (L : List KnE) : StE := preS (revK L 0)
/-- what is known, as an argument -/
def KnAt (w : World) (v : Value) (L : List KnE) : Prop := (L = [] ∧ v = .slice none 0 0) ∨ ∃ b c, v = .slice (some ⟨b, 0, none⟩) L.length c ∧ L.length ≤ c ∧ b < w.heap.size ∧ w.rangeAt b 0 (L.flatMap kcells)
theorem KnAt.after {w w' : World} {v : Value} {L : List KnE} (h : KnAt w v L) (hb : Below w.heap.size w w') : KnAt w' v L := by
  rcases h with h | ⟨b, c, h1, h2, h3, h4⟩
  · exact .inl h
  · refine .inr ⟨b, c, h1, h2, Nat.lt_of_lt_of_le h3 hb.size, fun j u hj => ?_⟩
    have := h4 j u hj
    unfold World.cell? at this ⊢
    rw [hb.block b h3]
    exact this
theorem backward_any (F : Fence) (n : Nat) (hf : F.fn 61) (hro : F.round = none) (v : Value) (hv : v.oneCell' = true) (w : World) :
    CallsIn F n Tryz.prog 61 #[v] w fun e w' => e = .returned (.func (.func 82) #[] #[.pointer (some ⟨w.heap.size, 0, none⟩)]) ∧ w' = w.alloc (.cells #[v] 54) := by
  refine callsIn_of_wp Tryz.func61 rfl hf ?_ hro
  simp only [Tryz.ntmps61, List.size_toArray, List.length_cons, List.length_nil, Nat.reduceAdd, Nat.reduceSub, Array.replicate_succ, Array.replicate_zero, List.push_toArray, List.append_toArray, List.nil_append, List.cons_append]
  cases v <;> first | (cases hv; done) | skip
  all_goals gi_wp2
  all_goals go_ret
  all_goals exact ⟨rfl, rfl⟩
set_option maxRecDepth 100000 in
set_option maxHeartbeats 6400000 in
theorem backN_body (n : Nat) (l Bn : Nat) (J : List ElK → World → Prop) (W : World) (hb : HasCells W Bn [.slice none 0 0] 54) (h0 : J [] W) :
    CallsIn Fence.wide n Tryz.prog 82 #[.func (.yield l) #[] #[], .pointer (some ⟨Bn, 0, none⟩)] W fun e W' => (∃ v, e = .returned v) ∧ J [] W' := by
  have c1 := hb.cell (j := 0) rfl
  have HJ := Lib.hid h0
  clear hb h0
  refine callsIn_of_wp Tryz.func82 rfl trivial ?_ rfl
  simp only [Tryz.ntmps82, List.size_toArray, List.length_cons, List.length_nil, Nat.reduceAdd, Nat.reduceSub, Array.replicate_succ, Array.replicate_zero, List.push_toArray, List.append_toArray, List.nil_append, List.cons_append]
  gi_wp2
  gi_loopw [3] (fun iv wr => iv = .int .i64 (-1) ∧ Hid (J [] wr)) (fun iv wr => 0)
  case atStart => exact ⟨rfl, HJ⟩
  case round =>
    obtain ⟨rfl, hJ⟩ := hrel
    gi_wp2
    go_end0
    exact ⟨⟨_, rfl⟩, hJ.out⟩
/-- the facts of the world at the loop's start -/
def StartN (w : World) (v : Value) (W0 : World) : Prop := StAt w.heap.size W0 (preS []) ∧ HasCells W0 (w.heap.size + 7) [.pointer (some ⟨w.heap.size + 6, 0, none⟩)] 45 ∧ HasCells W0 (w.heap.size + 8) [v] 54 ∧ Below w.heap.size w W0 ∧ W0.heap.size = w.heap.size + 9
theorem strF_wd : strF (wdV fun _ => none) = fun _ => none := by funext x; cases x <;> rfl
theorem strF_kn : strF (knV fun _ => none) = fun _ => none := by funext x; cases x <;> rfl
theorem MapV.alloc {K : Value → Prop} {w : World} {r : Nat} {F : Value → Option Value} (h : MapV K w r F) (o : Obj) : MapV K (w.alloc o) r F := h.kept (Below.heap_alloc w o r h.lt)
theorem run_loadKn {o : Oper} {a : Act} {w : World} {x : Operand} (ho : o.op = .load 52 x) {g b : Nat} {k : KnE} (hx : a.eval x = .pointer (some ⟨g, b, none⟩)) (h : w.rangeAt g b (kcells k)) : (execOp a.eval o).run Tryz.prog w = .ok (.value (.agg (kcells k).toArray)) w := by
  simp only [execOp, ho, hx, Instr.loadAt, Instr.sureAddr, Sem.run_bind, Sem.run_pure, Result.andThen_ok, run_loadVar_mid w g b _ _ _ h Tryz.underlying52 rfl infoKn]
theorem kn_bal {w : World} {b : Nat} {k : KnE} (h : w.rangeAt b 0 (kcells k)) : W4 w b 3 k.bal := fun j u hj => by
  have hj4 : j < 4 := (List.getElem?_eq_some_iff.1 hj).1
  have := h (3 + j) u (by
    match j, hj4, hj with
    | 0, _, hj => exact hj
    | 1, _, hj => exact hj
    | 2, _, hj => exact hj
    | 3, _, hj => exact hj)
  rwa [Nat.zero_add] at this
theorem z4 : (.agg #[.int .u64 0, .int .u64 0, .int .u64 0, .int .u64 0] : Value) = .agg #[.int .u64 (limb 0 0), .int .u64 (limb 0 1), .int .u64 (limb 0 2), .int .u64 (limb 0 3)] := by simp only [limb_nought]; rfl
theorem new_start (w : World) (v : Value) : StartN w v (((((((((((w.alloc (.map #[] 0)).alloc (.map #[] 0)).alloc (.map #[] 0)).alloc (.map #[] 0)).alloc (.map #[] 0)).alloc (.map #[] 0)).alloc (.cells #[.map (some w.heap.size), .map (some (w.heap.size + 1)), .map (some (w.heap.size + 2)), .map (some (w.heap.size + 3)), .map (some (w.heap.size + 4)), .map (some (w.heap.size + 5)), .slice none 0 0, .slice none 0 0] 105)).alloc (.cells #[.pointer (some ⟨w.heap.size + 6, 0, none⟩)] 45)).alloc (.cells #[v] 54)))) := by
  have e : ∀ (W : World) (o : Obj), (W.alloc o).heap.size = W.heap.size + 1 := fun W o => World.size_alloc _ _
  refine ⟨⟨?_, ?_, ?_, ?_, ?_, ?_, ?_⟩, ?_, ?_, ?_, ?_⟩
  · have h := HasCells.new ((((((w.alloc (.map #[] 0)).alloc (.map #[] 0)).alloc (.map #[] 0)).alloc (.map #[] 0)).alloc (.map #[] 0)).alloc (.map #[] 0)) (stC w.heap.size (preS [])) 105
    simp only [e, Nat.add_assoc, Nat.reduceAdd] at h
    exact (h.alloc _).alloc _
  · have h := MapV.new IsStr w
    show MapV _ _ _ (strF (knV fun _ => none))
    rw [strF_kn]
    exact (((((((h.alloc _).alloc _).alloc _).alloc _).alloc _).alloc _).alloc _).alloc _
  · have h := MapV.new IsStr (w.alloc (.map #[] 0))
    simp only [e] at h
    show MapV _ _ _ (strF (wdV fun _ => none))
    rw [strF_wd]
    exact ((((((h.alloc _).alloc _).alloc _).alloc _).alloc _).alloc _).alloc _
  · have h := MapV.new IsSpot ((w.alloc (.map #[] 0)).alloc (.map #[] 0))
    simp only [e, Nat.add_assoc, Nat.reduceAdd] at h
    exact (((((h.alloc _).alloc _).alloc _).alloc _).alloc _).alloc _
  · have h := MapV.new IsSpot (((w.alloc (.map #[] 0)).alloc (.map #[] 0)).alloc (.map #[] 0))
    simp only [e, Nat.add_assoc, Nat.reduceAdd] at h
    exact ((((h.alloc _).alloc _).alloc _).alloc _).alloc _
  · have h := MapV.new IsStr ((((w.alloc (.map #[] 0)).alloc (.map #[] 0)).alloc (.map #[] 0)).alloc (.map #[] 0))
    simp only [e, Nat.add_assoc, Nat.reduceAdd] at h
    exact (((h.alloc _).alloc _).alloc _).alloc _
  · have h := MapV.new IsSpot (((((w.alloc (.map #[] 0)).alloc (.map #[] 0)).alloc (.map #[] 0)).alloc (.map #[] 0)).alloc (.map #[] 0))
    simp only [e, Nat.add_assoc, Nat.reduceAdd] at h
    exact ((h.alloc _).alloc _).alloc _
  · have h := HasCells.new (((((((w.alloc (.map #[] 0)).alloc (.map #[] 0)).alloc (.map #[] 0)).alloc (.map #[] 0)).alloc (.map #[] 0)).alloc (.map #[] 0)).alloc (.cells (stC w.heap.size (preS [])).toArray 105)) [.pointer (some ⟨w.heap.size + 6, 0, none⟩)] 45
    simp only [e, Nat.add_assoc, Nat.reduceAdd] at h
    exact h.alloc _
  · have h := HasCells.new ((((((((w.alloc (.map #[] 0)).alloc (.map #[] 0)).alloc (.map #[] 0)).alloc (.map #[] 0)).alloc (.map #[] 0)).alloc (.map #[] 0)).alloc (.cells (stC w.heap.size (preS [])).toArray 105)).alloc (.cells #[.pointer (some ⟨w.heap.size + 6, 0, none⟩)] 45)) [v] 54
    simp only [e, Nat.add_assoc, Nat.reduceAdd] at h
    exact h
  · exact ((((((((((Below.refl _ w).alloc (Nat.le_refl _) _).alloc (by simp only [e]; omega) _).alloc (by simp only [e]; omega) _).alloc (by simp only [e]; omega) _).alloc (by simp only [e]; omega) _).alloc (by simp only [e]; omega) _).alloc (by simp only [e]; omega) _).alloc (by simp only [e]; omega) _).alloc (by simp only [e]; omega) _)
  · simp only [e]
set_option maxRecDepth 100000 in
set_option maxHeartbeats 6400000 in
theorem new_any (v : Value) (L : List KnE) (w : World) (hv : KnAt w v L) (hok : ∀ k ∈ L, KnOk k) (hL : L.length ≤ 200) : Calls Tryz.prog 33 #[v] w fun e w' => e = .returned (.pointer (some ⟨w.heap.size + 6, 0, none⟩)) ∧ StAt w.heap.size w' (newS L) ∧ Below w.heap.size w w' := by
  have HOK := Lib.hid hok
  have hmm := @run_makeMap Tryz.prog
  clear hok
  rcases hv with ⟨rfl, rfl⟩ | ⟨b, c, rfl, h2, h3, h4⟩
  · have hmin : min (0 : Int) 200 = 0 := rfl
    have HST := Lib.hid (new_start w (.slice none 0 0))
    clear hL HOK
    refine (callsIn_wide (n := 9)).1 ?_
    refine callsIn_of_wp_marks Tryz.func33 rfl trivial ?_ rfl
    simp only [Tryz.ntmps33, List.size_toArray, List.length_cons, List.length_nil, Nat.reduceAdd, Nat.reduceSub, Array.replicate_succ, Array.replicate_zero, List.push_toArray, List.append_toArray, List.nil_append, List.cons_append]
    gi_wp2_with (refine ⟨trivial, ?_⟩; gi_at_call 61; refine (backward_any Fence.wide _ trivial rfl _ rfl _).mono ?_; rintro e w' ⟨rfl, rfl⟩)
    simp only [Nat.add_assoc, Nat.reduceAdd]
    obtain ⟨W0, hW0⟩ : ∃ W, ((((((((((w.alloc (.map #[] 0)).alloc (.map #[] 0)).alloc (.map #[] 0)).alloc (.map #[] 0)).alloc (.map #[] 0)).alloc (.map #[] 0)).alloc (.cells #[.map (some w.heap.size), .map (some (w.heap.size + 1)), .map (some (w.heap.size + 2)), .map (some (w.heap.size + 3)), .map (some (w.heap.size + 4)), .map (some (w.heap.size + 5)), .slice none 0 0, .slice none 0 0] 105)).alloc (.cells #[.pointer (some ⟨w.heap.size + 6, 0, none⟩)] 45)).alloc (.cells #[.slice none 0 0] 54))) = W := ⟨_, rfl⟩
    rw [hW0] at HST
    rw [hW0]
    clear hW0 hmm hmin
    obtain ⟨hs1, hs2, hs3, hs4, hs5⟩ := HST.out
    have HS3 := Lib.hid hs3
    clear HST hs3
    refine wpIn_rangeFunc_S rfl (by omega) (gf := 82) (lb := #[.pointer (some ⟨w.heap.size + 8, 0, none⟩)]) rfl trivial (enters_of Tryz.func82 (by kernel_rfl) rfl)
      (encs := encK) (Step := fun A B => A = B) (Good := fun _ _ _ _ => False) (Kp := fun _ _ => True) (S := fun xs W' => xs = []) (Sp := fun _ _ => True) (w0 := W0)
      (fun l J Jx W1 hW hJs _ hY h0 => (backN_body _ l (w.heap.size + 8) J W1 (HS3.out.after hW) h0).mono (fun e w' h => ⟨h.1, .inl ⟨[], rfl, h.2⟩⟩))
      (fun _ _ => trivial) (fun W1 l o o' hl _ _ _ => trivial) (Below.refl _ _) (fun _ => rfl)
      (fun A B k o hst hk hA _ => by subst hst; exact hA)
      (fun pre W1 => (StAt w.heap.size W1 (preS pre) ∧ HasCells W1 (w.heap.size + 7) [.pointer (some ⟨w.heap.size + 6, 0, none⟩)] 45 ∧ Below w.heap.size w W1 ∧ w.heap.size + 9 ≤ W1.heap.size)) (fun _ _ _ => False) (fun pre x a' W1 => False)
      ?sown ?sown2 ?own ?ownx1 ?ownx ?ist (fun _ _ _ _ h => h.elim) ⟨hs1, hs2, hs4, by omega⟩ ?assign ?body ?done (fun _ _ _ _ _ _ h => h.elim)
    case sown => intro xs W1 W2 row h _ _; exact h
    case sown2 => intro _ _ _ _ _ _ _; trivial
    case own =>
      rintro pre W1 W2 row ⟨h1, h2, h3, h4⟩ hg hr
      have hk : ∀ k, k < w.heap.size + 9 → W2.heap[k]? = W1.heap[k]? := fun k hk => hg.block k (by omega) (fun e => by have := (hr k e.symm).1; omega)
      exact ⟨h1.kept fun k _ h => hk k (by omega), h2.kept (hk _ (by omega)), h3.trans ⟨hg.os, hg.tape, hg.output, hg.size, fun k h => hk k (by omega)⟩, Nat.le_trans h4 hg.size⟩
    case ownx1 => intro c s W1 W2 row h _ _; exact h
    case ownx => intro pre x a' _ W1 W2 row h _ _; exact h
    case ist => intro pre A B h hst; subst hst; exact h
    case assign => intro l pre x Wa Wb K _ _ h _; exact h.elim
    case body => intro l pre x a' W1 hl _ h; exact h.elim
    case done =>
      rintro D xs W1 hD rfl ⟨h1, h2, h3, h4⟩ hK
      have c1 := h2.cell (j := 0) rfl
      have H1 := Lib.hid h1
      have H3 := Lib.hid h3
      have HKD := Lib.hid hK
      clear h1 h2 h3 hK hs1 hs2 hs4
      gi_wp2
      have hgr : W1.grownBy (W1.putObj D (.deferred none)) (some D) := grownBy_putObj' W1 D _
      have hk : ∀ k, k < w.heap.size + 9 → (W1.putObj D (.deferred none)).heap[k]? = W1.heap[k]? := fun k hk => World.putObj_heap_other (by omega)
      refine ⟨by simp, .inl ⟨_, _, rfl, run_takeDeferred HKD.out, ?_⟩⟩
      refine ⟨_, results_tmp rfl _ _ _, ?_⟩
      exact ⟨rfl, H1.out.kept fun k _ h => hk k (by omega), H3.out.trans ⟨hgr.os, hgr.tape, hgr.output, hgr.size, fun k h => hk k (by omega)⟩⟩
  · have hmin : min ((L.length : Nat) : Int) 200 = L.length := by omega
    obtain ⟨N, hN⟩ : ∃ N, L.length = N := ⟨_, rfl⟩
    have HN := Lib.hid hN
    have HR := Lib.hid h4
    rw [hN] at h2 hmin hL
    have g1 : (N : Int) ≤ c := by omega
    have g2 : (0 : Int) ≤ N := by omega
    have HST := Lib.hid (new_start w (.slice (some ⟨b, 0, none⟩) N c))
    rw [hN]
    clear hN h4
    refine (callsIn_wide (n := 9)).1 ?_
    refine callsIn_of_wp_marks Tryz.func33 rfl trivial ?_ rfl
    simp only [Tryz.ntmps33, List.size_toArray, List.length_cons, List.length_nil, Nat.reduceAdd, Nat.reduceSub, Array.replicate_succ, Array.replicate_zero, List.push_toArray, List.append_toArray, List.nil_append, List.cons_append]
    gi_wp2_with (refine ⟨trivial, ?_⟩; gi_at_call 61; refine (backward_any Fence.wide _ trivial rfl _ rfl _).mono ?_; rintro e w' ⟨rfl, rfl⟩)
    simp only [Nat.add_assoc, Nat.reduceAdd]
    obtain ⟨W0, hW0⟩ : ∃ W, ((((((((((w.alloc (.map #[] 0)).alloc (.map #[] 0)).alloc (.map #[] 0)).alloc (.map #[] 0)).alloc (.map #[] 0)).alloc (.map #[] 0)).alloc (.cells #[.map (some w.heap.size), .map (some (w.heap.size + 1)), .map (some (w.heap.size + 2)), .map (some (w.heap.size + 3)), .map (some (w.heap.size + 4)), .map (some (w.heap.size + 5)), .slice none 0 0, .slice none 0 0] 105)).alloc (.cells #[.pointer (some ⟨w.heap.size + 6, 0, none⟩)] 45)).alloc (.cells #[.slice (some ⟨b, 0, none⟩) N c] 54))) = W := ⟨_, rfl⟩
    rw [hW0] at HST
    rw [hW0]
    clear hW0 hmm hmin
    obtain ⟨hs1, hs2, hs3, hs4, hs5⟩ := HST.out
    have HS3 := Lib.hid hs3
    have HRW := Lib.hid (show W0.rangeAt b 0 (L.flatMap kcells) from fun j u hj => by
      have h := HR.out j u hj
      unfold World.cell? at h ⊢
      rw [hs4.block b h3]
      exact h)
    clear HST hs3
    refine wpIn_rangeFunc_S rfl (by omega) (gf := 82) (lb := #[.pointer (some ⟨w.heap.size + 8, 0, none⟩)]) rfl trivial (enters_of Tryz.func82 (by kernel_rfl) rfl)
      (encs := encK) (Step := fun A B => A = B) (Good := GoodK L) (Kp := KeepS (fun g => g = b ∨ g = w.heap.size + 8)) (S := fun xs W' => xs = revK L 0) (Sp := fun _ _ => True) (w0 := W0)
      (fun l J Jx W1 hW hJs _ hY h0 => (backK_body _ (by omega) l (w.heap.size + 8) b c L (by have := HN.out; omega) (by have := HN.out; omega) _ (.inl rfl) (.inr rfl) J Jx hY W1 (by rw [HN.out]; exact HS3.out.after hW) (fun j u hj => by
          have h := HRW.out j u hj
          unfold World.cell? at h ⊢
          rw [hW.block b (by omega)]
          exact h) h0))
      KeepS.trans (fun W1 l o o' hl _ _ _ => ⟨by simp, fun g hg => World.putObj_heap_other (by omega)⟩) (Below.refl _ _) (fun _ => rfl)
      (fun A B k o hst hk hA _ => by subst hst; exact hA)
      (fun pre W1 => (StAt w.heap.size W1 (preS pre) ∧ HasCells W1 (w.heap.size + 7) [.pointer (some ⟨w.heap.size + 6, 0, none⟩)] 45 ∧ Below w.heap.size w W1 ∧ w.heap.size + 9 ≤ W1.heap.size)) (fun _ _ _ => False) (fun pre x a' W1 => (L[x.1]? = some x.2 ∧ pre = revK L (x.1 + 1)) ∧ ∃ xb, a' = { tmps := #[.slice (some ⟨b, 0, none⟩) N c, undef, .pointer none, .pointer (some ⟨w.heap.size + 7, 0, none⟩), undef, .pointer (some ⟨xb, 0, none⟩), .map (some w.heap.size), .map (some (w.heap.size + 1)), .map (some (w.heap.size + 2)), .map (some (w.heap.size + 3)), .map (some (w.heap.size + 4)), .map (some (w.heap.size + 5)), .agg #[.map (some w.heap.size), .map (some (w.heap.size + 1)), .map (some (w.heap.size + 2)), .map (some (w.heap.size + 3)), .map (some (w.heap.size + 4)), .map (some (w.heap.size + 5)), .slice none 0 0, .slice none 0 0], .pointer (some ⟨w.heap.size + 6, 0, none⟩), .slice (some ⟨b, 0, none⟩) N c, .slice (some ⟨b, 0, none⟩) N c, .int .i64 N, .int .i64 N, .slice (some ⟨b, 0, none⟩) N c, .func (.func 82) #[] #[.pointer (some ⟨w.heap.size + 8, 0, none⟩)], .int .i64 x.1, .agg (kcells x.2).toArray, undef, undef, undef, undef, undef, undef, undef, undef, undef, undef, undef, undef, undef, undef, undef, undef, undef, undef, undef, undef, undef, undef, undef, undef, undef, undef], defers := [] } ∧ w.heap.size + 9 ≤ xb ∧ HasCells W1 xb (kcells x.2) 52 ∧ (StAt w.heap.size W1 (preS pre) ∧ HasCells W1 (w.heap.size + 7) [.pointer (some ⟨w.heap.size + 6, 0, none⟩)] 45 ∧ Below w.heap.size w W1 ∧ w.heap.size + 9 ≤ W1.heap.size))
      ?sown ?sown2 ?own ?ownx1 ?ownx ?ist (fun _ _ _ _ h => h.elim) ⟨hs1, hs2, hs4, by omega⟩ ?assign ?body ?done (fun _ _ _ _ _ _ h => h.elim)
    case sown => intro xs W1 W2 row h _ _; exact h
    case sown2 => intro _ _ _ _ _ _ _; trivial
    case own =>
      rintro pre W1 W2 row ⟨h1, h2, h3, h4⟩ hg hr
      have hk : ∀ k, k < w.heap.size + 9 → W2.heap[k]? = W1.heap[k]? := fun k hk => hg.block k (by omega) (fun e => by have := (hr k e.symm).1; omega)
      exact ⟨h1.kept fun k _ h => hk k (by omega), h2.kept (hk _ (by omega)), h3.trans ⟨hg.os, hg.tape, hg.output, hg.size, fun k h => hk k (by omega)⟩, Nat.le_trans h4 hg.size⟩
    case ownx1 => intro c s W1 W2 row h _ _; exact h
    case ownx =>
      rintro pre x a' _ W1 W2 row ⟨e1, xb, e2, e3, e4, h1, h2, h3, h4⟩ hg hr
      have hk : ∀ k, k < w.heap.size + 9 → W2.heap[k]? = W1.heap[k]? := fun k hk => hg.block k (by omega) (fun e => by have := (hr k e.symm).1; omega)
      exact ⟨e1, xb, e2, e3, e4.grownE hg (fun r e => (hr r e).2), h1.kept fun k _ h => hk k (by omega), h2.kept (hk _ (by omega)), h3.trans ⟨hg.os, hg.tape, hg.output, hg.size, fun k h => hk k (by omega)⟩, Nat.le_trans h4 hg.size⟩
    case ist => intro pre A B h hst; subst hst; exact h
    case assign =>
      rintro l pre x Wa Wb K ⟨h1, h2, h3, h4⟩ hst ⟨hx, hp⟩ hK
      subst hst
      have HI := Lib.hid (And.intro h1 (And.intro h2 (And.intro h3 h4)))
      have HKK := Lib.hid hK
      have HXX := Lib.hid (And.intro hx hp)
      have HZ := Lib.hid (HasCells.new Wa [.string ⟨#[]⟩, .bool false, .int .u64 0, .int .u64 0, .int .u64 0, .int .u64 0, .int .u64 0, .string ⟨#[]⟩, .string ⟨#[]⟩, .bool false, .string ⟨#[]⟩, .slice none 0 0] 52)
      have hone := kcells_one (HOK.out x.2 (List.mem_of_getElem? hx))
      clear h1 h2 h3 hK hx hp hs1 hs2 hs4
      simp only [encK]
      gi_wp2_with ((with_reducible refine store_gateI 52 ?_); refine wpListIn_store_midI rfl 52 _ _ rfl Wa.heap.size 0 (kcells x.2).toArray rfl rfl (HZ.out.there 0 _ (by simp [kcells])) (by rw [List.size_toArray]; exact infoKn) hone ?_)
      have hsz1 : (Wa.alloc (.cells #[.string ⟨#[]⟩, .bool false, .int .u64 0, .int .u64 0, .int .u64 0, .int .u64 0, .int .u64 0, .string ⟨#[]⟩, .string ⟨#[]⟩, .bool false, .string ⟨#[]⟩, .slice none 0 0] 52)).heap.size = Wa.heap.size + 1 := World.size_alloc _ _
      obtain ⟨Wb, hWb⟩ : ∃ W, (Wa.alloc (.cells #[.string ⟨#[]⟩, .bool false, .int .u64 0, .int .u64 0, .int .u64 0, .int .u64 0, .int .u64 0, .string ⟨#[]⟩, .string ⟨#[]⟩, .bool false, .string ⟨#[]⟩, .slice none 0 0] 52)).setCells Wa.heap.size 0 (kcells x.2) = W := ⟨_, rfl⟩
      have hn : HasCells Wb Wa.heap.size (kcells x.2) 52 := by rw [← hWb]; exact HZ.out.whole rfl
      have hb : Below Wa.heap.size Wa Wb := by rw [← hWb]; exact below_sets (Nat.le_refl _) _ _ _ ((Below.refl _ _).alloc (Nat.le_refl _) _)
      rw [hWb]
      obtain ⟨j1, j2, j3, j4⟩ := HI.out
      obtain ⟨hx, hp⟩ := HXX.out
      refine HKK.out _ _ ⟨hb.size, fun q o hq ho _ => (hb.block q (Array.getElem?_eq_some_iff.1 ho).1).trans ho⟩ ⟨hb.size, fun g hg => hb.block g (by rcases hg with hg | hg <;> omega)⟩ ⟨⟨hx, hp⟩, Wa.heap.size, rfl, j4, hn, j1.after hb, j2.after hb, j3.trans (hb.mono (by omega)), Nat.le_trans j4 hb.size⟩
    case body =>
      rintro l pre x a' W1 hl - ⟨⟨hx, hp⟩, xb, rfl, hxb, hxc, h1, h2, h3, h4⟩
      obtain ⟨i, k⟩ := x
      dsimp only at hx hp hxc ⊢
      have HX := Lib.hid (And.intro hx hp)
      have H1 := Lib.hid h1
      have HP1 := Lib.hid h2
      have HC1 := Lib.hid h1.cells
      have HK1 := Lib.hid h1.kn
      have HL1 := Lib.hid h1.bl
      have HB1 := Lib.hid h3
      have HX1 := Lib.hid hxc
      clear hx hp h1 h2 h3 hxc hs1 hs2 hs4
      obtain ⟨o1, hu1, hm1⟩ := HK1.out.drew.update (P := Tryz.prog) (mty := 98) Tryz.underlying98 (keyFit_string Tryz.underlying9) (.string k.addr) (.agg (kcells k).toArray) ⟨_, rfl⟩
      have HM1 := Lib.hid hm1
      have HSB := Lib.hid (And.intro (HP1.out.cell (j := 0) rfl) (And.intro (HC1.out.cell (j := 0) rfl) (And.intro (HC1.out.cell (j := 1) rfl) (And.intro (HX1.out.cell (j := 0) rfl) HX1.out.range))))
      clear hm1
      gi_wp2
      refine wpIn_round_held (fun W => W.cell? ⟨w.heap.size + 7, 0, none⟩ = some (.pointer (some ⟨w.heap.size + 6, 0, none⟩)) ∧ W.cell? ⟨w.heap.size + 6, 0, none⟩ = some (.map (some w.heap.size)) ∧ W.cell? ⟨w.heap.size + 6, 1, none⟩ = some (.map (some (w.heap.size + 1))) ∧ W.cell? ⟨xb, 0, none⟩ = some (.string k.addr) ∧ W.rangeAt xb 0 (kcells k)) (by kernel_rfl) (by kernel_rfl) (fun ⟨_, _, h⟩ => h.elim) (HSB.out) (fun hHeld => ?_)
      refine hD 0 ?_
      refine hT 1 ?_
      refine hT 2 ?_
      refine hD 3 ?_
      refine hT 4 ?_
      refine hD 5 ?_
      refine hU 6 ?_ (hy := fun w0 hSw => run_loadKn rfl rfl hSw.2.2.2.2)
      refine wpAnyH_ready (rs := [7]) (by kernel_rfl) (by simp) ?_
      refine AllReadyH.cons rfl (fun K hK => ?_) AllReadyH.nil
      go_simp
      obtain ⟨W2, hW2⟩ : ∃ W, W1.drew.putObj (w.heap.size) o1 = W := ⟨_, rfl⟩
      have hot : ∀ q, q ≠ w.heap.size → W2.heap[q]? = W1.heap[q]? := fun q hq => by rw [← hW2]; exact World.putObj_heap_other hq
      have hsz2 : W2.heap.size = W1.heap.size := by rw [← hW2]; exact World.putObj_size
      have HB2 := Lib.hid (show Below w.heap.size w W2 from by rw [← hW2]; exact below_put HB1.out.drew (by omega) _)
      have HX2 := Lib.hid (HX1.out.kept (hot xb (by omega)))
      have HP2 := Lib.hid (HP1.out.kept (hot _ (by omega)))
      have HC2 := Lib.hid (HC1.out.kept (hot _ (by omega)))
      have HO2 := Lib.hid (show ∀ q, q ≠ w.heap.size → q ≠ w.heap.size + 1 → W2.heap[q]? = W1.heap[q]? from fun q h1 _ => hot q h1)
      rw [hW2] at HM1
      rw [hW2]
      have HK2 := HM1
      have HL2 := Lib.hid (HL1.out.kept (hot _ (by omega)))
      clear hW2 hot hu1
      refine hK.out _ _ ⟨HP2.out.cell (j := 0) rfl, HC2.out.cell (j := 0) rfl, HC2.out.cell (j := 1) rfl, HX2.out.cell (j := 0) rfl, HX2.out.range⟩ (fun hHeld => ?_)
      clear hK K hHeld HSB
      try simp only [Act.put, zq]
      refine wpAnyH_done (by kernel_rfl) ?_ 0
      obtain ⟨o2, hu2, hm2⟩ := HL2.out.drew.update (P := Tryz.prog) (mty := 99) Tryz.underlying99 (keyFit_string Tryz.underlying9) (.string k.addr) (.agg #[.int .u64 0, .int .u64 0, .int .u64 0, .int .u64 0]) ⟨_, rfl⟩
      have HM2 := Lib.hid hm2
      have HSB := Lib.hid (And.intro (HP2.out.cell (j := 0) rfl) (And.intro (HC2.out.cell (j := 0) rfl) (And.intro (HC2.out.cell (j := 1) rfl) (And.intro (HX2.out.cell (j := 0) rfl) HX2.out.range))))
      clear hm2
      gi_wp2
      refine wpIn_round_held (fun W => W.cell? ⟨w.heap.size + 7, 0, none⟩ = some (.pointer (some ⟨w.heap.size + 6, 0, none⟩)) ∧ W.cell? ⟨w.heap.size + 6, 0, none⟩ = some (.map (some w.heap.size)) ∧ W.cell? ⟨w.heap.size + 6, 1, none⟩ = some (.map (some (w.heap.size + 1))) ∧ W.cell? ⟨xb, 0, none⟩ = some (.string k.addr) ∧ W.rangeAt xb 0 (kcells k)) (by kernel_rfl) (by kernel_rfl) (fun ⟨_, _, h⟩ => h.elim) (HSB.out) (fun hHeld => ?_)
      refine hD 0 ?_
      refine hT 1 ?_
      refine hT 2 ?_
      refine hD 3 ?_
      refine hT 4 ?_
      refine hD 5 ?_
      refine hT 6 ?_
      refine wpAnyH_ready (rs := [7]) (by kernel_rfl) (by simp) ?_
      refine AllReadyH.cons rfl (fun K hK => ?_) AllReadyH.nil
      go_simp
      obtain ⟨W3, hW3⟩ : ∃ W, W2.drew.putObj (w.heap.size + 1) o2 = W := ⟨_, rfl⟩
      have hot : ∀ q, q ≠ w.heap.size + 1 → W3.heap[q]? = W2.heap[q]? := fun q hq => by rw [← hW3]; exact World.putObj_heap_other hq
      have hsz3 : W3.heap.size = W2.heap.size := by rw [← hW3]; exact World.putObj_size
      have HB3 := Lib.hid (show Below w.heap.size w W3 from by rw [← hW3]; exact below_put HB2.out.drew (by omega) _)
      have HX3 := Lib.hid (HX2.out.kept (hot xb (by omega)))
      have HP3 := Lib.hid (HP2.out.kept (hot _ (by omega)))
      have HC3 := Lib.hid (HC2.out.kept (hot _ (by omega)))
      have HO3 := Lib.hid (show ∀ q, q ≠ w.heap.size → q ≠ w.heap.size + 1 → W3.heap[q]? = W1.heap[q]? from fun q h1 h2 => (hot q (by omega)).trans (HO2.out q h1 h2))
      rw [hW3] at HM2
      rw [hW3]
      have HK3 := Lib.hid (HK2.out.kept (hot _ (by omega)))
      have HL3 := HM2
      clear hW3 hot hu2
      refine hK.out _ _ ⟨HP3.out.cell (j := 0) rfl, HC3.out.cell (j := 0) rfl, HC3.out.cell (j := 1) rfl, HX3.out.cell (j := 0) rfl, HX3.out.range⟩ (fun hHeld => ?_)
      clear hK K hHeld HSB
      try simp only [Act.put, zq]
      refine wpAnyH_done (by kernel_rfl) ?_ 0
      cases hth : k.there with
      | false =>
        have c3 := HX3.out.cell (j := 1) rfl
        rw [hth] at c3
        have hth := Lib.hid hth
        gi_wp2
        refine ⟨⟨by omega, fun q o hq ho hc => ?_⟩, ⟨by omega, fun q hq => HO3.out q (by omega) (by omega)⟩, ⟨HC3.out, ?_, ?_, ?_, ?_, ?_, ?_⟩, HP3.out, HB3.out, by omega⟩
        · exact (HO3.out q (by omega) (by omega)).trans ho
        · have h := HK3.out
          rw [updV_str, knV_set] at h
          show MapV _ _ _ (strF (knV (knF (pre ++ [(i, k)]))))
          rw [knF_step]
          exact h
        · have h := HL3.out
          rw [updV_str, z4, wdV_set] at h
          show MapV _ _ _ (strF (wdV (blF (pre ++ [(i, k)]))))
          rw [blF_step]
          dsimp only
          rw [hth.out, if_neg (by decide)]
          exact h
        · exact H1.out.sv.kept (HO3.out _ (by omega) (by omega))
        · exact H1.out.br.kept (HO3.out _ (by omega) (by omega))
        · exact H1.out.wm.kept (HO3.out _ (by omega) (by omega))
        · exact H1.out.cl.kept (HO3.out _ (by omega) (by omega))
      | true =>
        have c3 := HX3.out.cell (j := 1) rfl
        rw [hth] at c3
        have hth := Lib.hid hth
        gi_wp2_with fail
        clear c3
        obtain ⟨o3, hu3, hm3⟩ := HL3.out.drew.update (P := Tryz.prog) (mty := 99) Tryz.underlying99 (keyFit_string Tryz.underlying9) (.string k.addr) (.agg #[.int .u64 (limb k.bal 0), .int .u64 (limb k.bal 1), .int .u64 (limb k.bal 2), .int .u64 (limb k.bal 3)]) ⟨_, rfl⟩
        have HM3 := Lib.hid hm3
        have HSB := Lib.hid (And.intro (HP3.out.cell (j := 0) rfl) (And.intro (HC3.out.cell (j := 0) rfl) (And.intro (HC3.out.cell (j := 1) rfl) (And.intro (HX3.out.cell (j := 0) rfl) HX3.out.range))))
        clear hm3
        gi_wp2
        refine wpIn_round_held (fun W => W.cell? ⟨w.heap.size + 7, 0, none⟩ = some (.pointer (some ⟨w.heap.size + 6, 0, none⟩)) ∧ W.cell? ⟨w.heap.size + 6, 0, none⟩ = some (.map (some w.heap.size)) ∧ W.cell? ⟨w.heap.size + 6, 1, none⟩ = some (.map (some (w.heap.size + 1))) ∧ W.cell? ⟨xb, 0, none⟩ = some (.string k.addr) ∧ W.rangeAt xb 0 (kcells k)) (by kernel_rfl) (by kernel_rfl) (fun ⟨_, _, h⟩ => h.elim) (HSB.out) (fun hHeld => ?_)
        refine hD 0 ?_
        refine hT 1 ?_
        refine hT 2 ?_
        refine hD 3 ?_
        refine hT 4 ?_
        refine hD 5 ?_
        refine hT 6 ?_
        refine hT 7 ?_
        refine hU 8 ?_ (hy := fun w0 hSw => run_loadW rfl rfl (kn_bal hSw.2.2.2.2))
        refine wpAnyH_ready (rs := [9]) (by kernel_rfl) (by simp) ?_
        refine AllReadyH.cons rfl (fun K hK => ?_) AllReadyH.nil
        go_simp
        obtain ⟨W4, hW4⟩ : ∃ W, W3.drew.putObj (w.heap.size + 1) o3 = W := ⟨_, rfl⟩
        have hot : ∀ q, q ≠ w.heap.size + 1 → W4.heap[q]? = W3.heap[q]? := fun q hq => by rw [← hW4]; exact World.putObj_heap_other hq
        have hsz4 : W4.heap.size = W3.heap.size := by rw [← hW4]; exact World.putObj_size
        have HB4 := Lib.hid (show Below w.heap.size w W4 from by rw [← hW4]; exact below_put HB3.out.drew (by omega) _)
        have HX4 := Lib.hid (HX3.out.kept (hot xb (by omega)))
        have HP4 := Lib.hid (HP3.out.kept (hot _ (by omega)))
        have HC4 := Lib.hid (HC3.out.kept (hot _ (by omega)))
        have HO4 := Lib.hid (show ∀ q, q ≠ w.heap.size → q ≠ w.heap.size + 1 → W4.heap[q]? = W1.heap[q]? from fun q h1 h2 => (hot q (by omega)).trans (HO3.out q h1 h2))
        rw [hW4] at HM3
        rw [hW4]
        have HK4 := Lib.hid (HK3.out.kept (hot _ (by omega)))
        have HL4 := HM3
        clear hW4 hot hu3
        refine hK.out _ _ ⟨HP4.out.cell (j := 0) rfl, HC4.out.cell (j := 0) rfl, HC4.out.cell (j := 1) rfl, HX4.out.cell (j := 0) rfl, HX4.out.range⟩ (fun hHeld => ?_)
        clear hK K hHeld HSB
        try simp only [Act.put, zq]
        refine wpAnyH_done (by kernel_rfl) ?_ 0
        refine ⟨⟨by omega, fun q o hq ho hc => ?_⟩, ⟨by omega, fun q hq => HO4.out q (by omega) (by omega)⟩, ⟨HC4.out, ?_, ?_, ?_, ?_, ?_, ?_⟩, HP4.out, HB4.out, by omega⟩
        · exact (HO4.out q (by omega) (by omega)).trans ho
        · have h := HK4.out
          rw [updV_str, knV_set] at h
          show MapV _ _ _ (strF (knV (knF (pre ++ [(i, k)]))))
          rw [knF_step]
          exact h
        · have h := HL4.out
          rw [updV_str, updV_str, z4, wdV_set, wdV_set] at h
          show MapV _ _ _ (strF (wdV (blF (pre ++ [(i, k)]))))
          rw [blF_step]
          dsimp only
          rw [hth.out, if_pos rfl]
          exact h
        · exact H1.out.sv.kept (HO4.out _ (by omega) (by omega))
        · exact H1.out.br.kept (HO4.out _ (by omega) (by omega))
        · exact H1.out.wm.kept (HO4.out _ (by omega) (by omega))
        · exact H1.out.cl.kept (HO4.out _ (by omega) (by omega))
    case done =>
      rintro D xs W1 hD rfl ⟨h1, h2, h3, h4⟩ hK
      have c1 := h2.cell (j := 0) rfl
      have H1 := Lib.hid h1
      have H3 := Lib.hid h3
      have HKD := Lib.hid hK
      clear h1 h2 h3 hK hs1 hs2 hs4
      gi_wp2
      have hgr : W1.grownBy (W1.putObj D (.deferred none)) (some D) := grownBy_putObj' W1 D _
      have hk : ∀ k, k < w.heap.size + 9 → (W1.putObj D (.deferred none)).heap[k]? = W1.heap[k]? := fun k hk => World.putObj_heap_other (by omega)
      refine ⟨by simp, .inl ⟨_, _, rfl, run_takeDeferred HKD.out, ?_⟩⟩
      refine ⟨_, results_tmp rfl _ _ _, ?_⟩
      exact ⟨rfl, H1.out.kept fun k _ h => hk k (by omega), H3.out.trans ⟨hgr.os, hgr.tape, hgr.output, hgr.size, fun k h => hk k (by omega)⟩⟩
end Go.Proofs.YtlelgbmbmajfmaaGreatDoor

namespace Go.Proofs.YtlelgbmbmajfmaaGreatDoor
open Go.RowKit Go.Shelf Go.Lib
attribute [local go_sem] Oper.semAt_some
theorem zero_of {t : TypeId} {z : Value} (h : (Tryz.prog.info? t).map (·.zero) = some (some z)) (w : World) : (zeroValue t).run Tryz.prog w = .ok z w := by
  obtain ⟨i, hi, hz⟩ := Option.map_eq_some_iff.1 h
  simp [zeroValue, typeInfo, hi, hz, Result.andThen]
theorem zeroKn (w : World) : (zeroValue 52).run Tryz.prog w = .ok (.agg #[.string ⟨#[]⟩, .bool false, .int .u64 0, .int .u64 0, .int .u64 0, .int .u64 0, .int .u64 0, .string ⟨#[]⟩, .string ⟨#[]⟩, .bool false, .string ⟨#[]⟩, .slice none 0 0]) w := zero_of (by kernel_rfl) w
theorem look_kn {B : Nat} {S : StE} {W : World} (h : MapV IsStr W B (strF (knV S.kn))) (a : ByteArray) : (Instr.lookup 98 (.map (some B)) (.string a) true).run Tryz.prog W = .ok (match S.kn a with
    | some k => .tuple #[.agg (kcells k).toArray, .bool true]
    | none => .tuple #[.agg #[.string ⟨#[]⟩, .bool false, .int .u64 0, .int .u64 0, .int .u64 0, .int .u64 0, .int .u64 0, .string ⟨#[]⟩, .string ⟨#[]⟩, .bool false, .string ⟨#[]⟩, .slice none 0 0], .bool false]) W := by
  have := h.lookup (P := Tryz.prog) (mty := 98) Tryz.underlying98 (keyFit_string Tryz.underlying9) (zeroKn W) (.string a) ⟨_, rfl⟩ true
  rw [this]
  show _ = _
  have e : strF (knV S.kn) (.string a) = (S.kn a).map fun k => .agg (kcells k).toArray := rfl
  rw [e]
  cases S.kn a <;> rfl
theorem z12_one : (#[.string ⟨#[]⟩, .bool false, .int .u64 0, .int .u64 0, .int .u64 0, .int .u64 0, .int .u64 0, .string ⟨#[]⟩, .string ⟨#[]⟩, .bool false, .string ⟨#[]⟩, .slice none 0 0] : Array Value).all (·.oneCell') = true := by simp [Value.oneCell']
def findC (S : StE) (a : ByteArray) : List Value := match S.kn a with
  | some k => kcells k
  | none => [.string ⟨#[]⟩, .bool false, .int .u64 0, .int .u64 0, .int .u64 0, .int .u64 0, .int .u64 0, .string ⟨#[]⟩, .string ⟨#[]⟩, .bool false, .string ⟨#[]⟩, .slice none 0 0]
def findN (S : StE) (a : ByteArray) : Nat := match S.kn a with
  | some _ => 0
  | none => 190
theorem findC_length (S : StE) (a : ByteArray) : (findC S a).length = 12 := by unfold findC; cases S.kn a <;> rfl
theorem findC_one {S : StE} {a : ByteArray} (hok : ∀ k, S.kn a = some k → KnOk k) : (findC S a).toArray.all (·.oneCell') = true := by
  unfold findC
  cases h : S.kn a with
  | none => exact z12_one
  | some k => exact kcells_one (hok k h)
set_option maxRecDepth 100000 in
set_option maxHeartbeats 6400000 in
theorem find_any (B : Nat) (S : StE) (a : ByteArray) (w : World) (h : StAt B w S) (hok : ∀ k, S.kn a = some k → KnOk k) : Calls Tryz.prog 66 #[.pointer (some ⟨B + 6, 0, none⟩), .string a] w fun e w' => e = .returned (.tuple #[.agg (findC S a).toArray, .int .i64 (findN S a)]) ∧ Below w.heap.size w w' := by
  have hlt := h.lt
  have HZ1 := Lib.hid (HasCells.new w [.string ⟨#[]⟩, .bool false, .int .u64 0, .int .u64 0, .int .u64 0, .int .u64 0, .int .u64 0, .string ⟨#[]⟩, .string ⟨#[]⟩, .bool false, .string ⟨#[]⟩, .slice none 0 0] 52)
  obtain ⟨w1, hw1⟩ : ∃ W, w.alloc (.cells #[.string ⟨#[]⟩, .bool false, .int .u64 0, .int .u64 0, .int .u64 0, .int .u64 0, .int .u64 0, .string ⟨#[]⟩, .string ⟨#[]⟩, .bool false, .string ⟨#[]⟩, .slice none 0 0] 52) = W := ⟨_, rfl⟩
  have hw1' : w.alloc (.cells ([.string ⟨#[]⟩, .bool false, .int .u64 0, .int .u64 0, .int .u64 0, .int .u64 0, .int .u64 0, .string ⟨#[]⟩, .string ⟨#[]⟩, .bool false, .string ⟨#[]⟩, .slice none 0 0] : List Value).toArray 52) = w1 := hw1
  rw [hw1'] at HZ1
  have hs1 : w1.heap.size = w.heap.size + 1 := by rw [← hw1]; exact World.size_alloc _ _
  have hb1 : Below w.heap.size w w1 := by rw [← hw1]; exact (Below.refl _ _).alloc (Nat.le_refl _) _
  have HB1 := Lib.hid hb1
  have HW1 := Lib.hid hw1
  have c1 := (h.after hb1).cells.cell (j := 0) rfl
  have hlen := findC_length S a
  have hone := findC_one hok
  obtain ⟨cs, hcs⟩ : ∃ cs, findC S a = cs := ⟨_, rfl⟩
  obtain ⟨ok, hokk⟩ : ∃ ok, (S.kn a).isSome = ok := ⟨_, rfl⟩
  have hl : (Instr.lookup 98 (.map (some B)) (.string a) true).run Tryz.prog w1 = .ok (.tuple #[.agg cs.toArray, .bool ok]) w1 := by
    rw [look_kn (h.after hb1).kn a, ← hcs, ← hokk]
    unfold findC
    cases S.kn a <;> rfl
  have HZ2 := Lib.hid (HasCells.new w1 [.string ⟨#[]⟩, .bool false, .int .u64 0, .int .u64 0, .int .u64 0, .int .u64 0, .int .u64 0, .string ⟨#[]⟩, .string ⟨#[]⟩, .bool false, .string ⟨#[]⟩, .slice none 0 0] 52)
  obtain ⟨w2, hw2⟩ : ∃ W, w1.alloc (.cells #[.string ⟨#[]⟩, .bool false, .int .u64 0, .int .u64 0, .int .u64 0, .int .u64 0, .int .u64 0, .string ⟨#[]⟩, .string ⟨#[]⟩, .bool false, .string ⟨#[]⟩, .slice none 0 0] 52) = W := ⟨_, rfl⟩
  have hw2' : w1.alloc (.cells ([.string ⟨#[]⟩, .bool false, .int .u64 0, .int .u64 0, .int .u64 0, .int .u64 0, .int .u64 0, .string ⟨#[]⟩, .string ⟨#[]⟩, .bool false, .string ⟨#[]⟩, .slice none 0 0] : List Value).toArray 52) = w2 := hw2
  rw [hw2', hs1] at HZ2
  have HB2 := Lib.hid (show Below w1.heap.size w1 w2 from by rw [← hw2]; exact (Below.refl _ _).alloc (Nat.le_refl _) _)
  have HW2 := Lib.hid hw2
  have hcz : ok = false → cs = [.string ⟨#[]⟩, .bool false, .int .u64 0, .int .u64 0, .int .u64 0, .int .u64 0, .int .u64 0, .string ⟨#[]⟩, .string ⟨#[]⟩, .bool false, .string ⟨#[]⟩, .slice none 0 0] := fun e => by rw [← hcs]; unfold findC; cases h2 : S.kn a with
    | none => rfl
    | some k => rw [h2] at hokk; rw [← hokk] at e; cases e
  have HCZ := Lib.hid hcz
  clear hcz
  have hn : findN S a = if ok then 0 else 190 := by rw [← hokk]; unfold findN; cases S.kn a <;> rfl
  rw [hcs] at hlen hone ⊢
  rw [hn]
  have HLEN := Lib.hid hlen
  have infoS : (Tryz.prog.info? 52).map (·.size) = some cs.toArray.size := by rw [List.size_toArray, hlen]; exact infoKn
  have infoL : (Tryz.prog.info? 52).map (·.size) = some cs.length := by rw [hlen]; exact infoKn
  have HS := Lib.hid (And.intro infoS (And.intro infoL hone))
  have HT2 := Lib.hid (HZ2.out.whole (vs := cs) (by rw [hlen]; rfl))
  have HP2 := Lib.hid (HZ1.out.below HB2.out (by omega))
  have HB3 := Lib.hid (HB1.out.trans ((HB2.out.mono (by omega)).trans (below_sets (by omega) cs 0 w2 (Below.refl w.heap.size w2) (q := w.heap.size + 1))))
  have HP3 := Lib.hid (HP2.out.kept (setCells_other (by omega) cs 0 w2 (q := w.heap.size + 1)))
  clear h hw1 hw1' hw2 hw2' hb1 hok hcs hokk hn hlen infoS infoL hone
  cases ok with
  | false =>
    go_enter Tryz.func66, Tryz.ntmps66
    go_wp2_with (first | rw [HW1.out] | rw [HW2.out] | ((with_reducible refine store_gateK 52 ?_); refine wpList_store_mid rfl 52 _ _ rfl (w.heap.size + 1) 0 cs.toArray rfl rfl (HZ2.out.there 0 _ (by rw [List.size_toArray, HLEN.out]; exact Nat.le_refl _)) HS.out.1 HS.out.2.2 ?_; clear hl c1) | ((with_reducible refine store_gateK 52 ?_); refine wpList_store_mid rfl 52 _ _ rfl w.heap.size 0 #[.string ⟨#[]⟩, .bool false, .int .u64 0, .int .u64 0, .int .u64 0, .int .u64 0, .int .u64 0, .string ⟨#[]⟩, .string ⟨#[]⟩, .bool false, .string ⟨#[]⟩, .slice none 0 0] rfl rfl (HP3.out.there 0 _ (Nat.le_refl _)) infoKn z12_one ?_))
    obtain rfl : cs = [.string ⟨#[]⟩, .bool false, .int .u64 0, .int .u64 0, .int .u64 0, .int .u64 0, .int .u64 0, .string ⟨#[]⟩, .string ⟨#[]⟩, .bool false, .string ⟨#[]⟩, .slice none 0 0] := by first | exact HCZ.out rfl | exact HCZ.out trivial | exact HCZ.out
    have hf : HasCells ((w2.setCells (w.heap.size + 1) 0 [.string ⟨#[]⟩, .bool false, .int .u64 0, .int .u64 0, .int .u64 0, .int .u64 0, .int .u64 0, .string ⟨#[]⟩, .string ⟨#[]⟩, .bool false, .string ⟨#[]⟩, .slice none 0 0]).setCells w.heap.size 0 [.string ⟨#[]⟩, .bool false, .int .u64 0, .int .u64 0, .int .u64 0, .int .u64 0, .int .u64 0, .string ⟨#[]⟩, .string ⟨#[]⟩, .bool false, .string ⟨#[]⟩, .slice none 0 0]) w.heap.size [.string ⟨#[]⟩, .bool false, .int .u64 0, .int .u64 0, .int .u64 0, .int .u64 0, .int .u64 0, .string ⟨#[]⟩, .string ⟨#[]⟩, .bool false, .string ⟨#[]⟩, .slice none 0 0] 52 := HP3.out.whole rfl
    refine bodyPost_ret (results_cells2 rfl _ _ w.heap.size [.string ⟨#[]⟩, .bool false, .int .u64 0, .int .u64 0, .int .u64 0, .int .u64 0, .int .u64 0, .string ⟨#[]⟩, .string ⟨#[]⟩, .bool false, .string ⟨#[]⟩, .slice none 0 0] _ (by rfl) hf.range Tryz.underlying52 rfl infoKn) rfl ⟨rfl, HB3.out.trans (below_sets (Nat.le_refl _) _ _ _ (Below.refl _ _))⟩
  | true =>
    go_enter Tryz.func66, Tryz.ntmps66
    go_wp2_with (first | rw [HW1.out] | rw [HW2.out] | ((with_reducible refine store_gateK 52 ?_); refine wpList_store_mid rfl 52 _ _ rfl (w.heap.size + 1) 0 cs.toArray rfl rfl (HZ2.out.there 0 _ (by rw [List.size_toArray, HLEN.out]; exact Nat.le_refl _)) HS.out.1 HS.out.2.2 ?_; clear hl c1) | ((with_reducible refine store_gateK 52 ?_); refine wpList_store_mid rfl 52 _ _ rfl w.heap.size 0 cs.toArray rfl rfl (HP3.out.there 0 _ (by rw [List.size_toArray, HLEN.out]; exact Nat.le_refl _)) HS.out.1 HS.out.2.2 ?_) | ((with_reducible refine load_gateK 52 ?_); refine wpList_load_midK rfl 52 _ rfl (w.heap.size + 1) 0 rfl cs _ HT2.out.range Tryz.underlying52 rfl HS.out.2.1 ?_))
    have hf : HasCells ((w2.setCells (w.heap.size + 1) 0 cs).setCells w.heap.size 0 cs) w.heap.size cs 52 := HP3.out.whole (by rw [HLEN.out]; rfl)
    refine bodyPost_ret (results_cells2 rfl _ _ w.heap.size cs _ (by rfl) hf.range Tryz.underlying52 rfl HS.out.2.1) rfl ⟨rfl, HB3.out.trans (below_sets (Nat.le_refl _) _ _ _ (Below.refl _ _))⟩
theorem results_tmp2E {fn : Func} {p q : Tmp} (h : fn.results = #[.tmp p, .tmp q]) (tmps : Array Value) (w : World) : (results fn tmps).run Tryz.prog w = .ok (.tuple #[tmps.getD p undef, tmps.getD q undef]) w := by
  simp [results, h]
theorem field_code (x0 x1 x2 x3 x4 : Value) (r c : ByteArray) (W : World) : (Instr.field 49 (.agg #[x0, x1, x2, x3, x4, .string r, .string c]) 3).run Tryz.prog W = .ok (.string c) W := by
  simp [Instr.field, run_underlying Tryz.underlying49, run_underlying Tryz.underlying9, Go.part, isAgg, asAgg, Result.andThen]
theorem mark_any (B : Nat) (S : StE) (n : Nat) (w : World) (h : StAt B w S) (p c : _) (hu : S.undo = .slice p n c) : Calls Tryz.prog 43 #[.pointer (some ⟨B + 6, 0, none⟩)] w fun e w' => e = .returned (.int .i64 n) ∧ w' = w := by
  have c1 := h.cells.cell (j := 7) rfl
  rw [hu] at c1
  clear h
  go_enter Tryz.func43, Tryz.ntmps43
  go_wp2_with fail
  go_ret
  exact ⟨rfl, rfl⟩
/-- what Code answers -/
def codeC (S : StE) (a : ByteArray) : ByteArray := match S.kn a with
  | some k => if k.there && !(k.hash.toList == (kecB []).toList) && k.has then k.code else ⟨#[]⟩
  | none => ⟨#[]⟩
def codeN (S : StE) (a : ByteArray) : Nat := match S.kn a with
  | some k => if k.there && !(k.hash.toList == (kecB []).toList) && !k.has then 190 else 0
  | none => 190
set_option maxRecDepth 100000 in
set_option maxHeartbeats 6400000 in
theorem code_any (B : Nat) (S : StE) (a : ByteArray) (w : World) (h : StAt B w S) (hK : KecT w) (hok : ∀ k, S.kn a = some k → KnOk k) : Calls Tryz.prog 78 #[.pointer (some ⟨B + 6, 0, none⟩), .string a] w fun e w' => e = .returned (.tuple #[.string (codeC S a), .int .i64 (codeN S a)]) ∧ Below w.heap.size w w' := by
  have HF := Lib.hid (find_any B S a w h hok)
  have HKT := Lib.hid hK
  unfold codeC codeN
  cases hk : S.kn a with
  | none =>
    have e1 : findC S a = [.string ⟨#[]⟩, .bool false, .int .u64 0, .int .u64 0, .int .u64 0, .int .u64 0, .int .u64 0, .string ⟨#[]⟩, .string ⟨#[]⟩, .bool false, .string ⟨#[]⟩, .slice none 0 0] := by unfold findC; rw [hk]
    have e2 : findN S a = 190 := by unfold findN; rw [hk]
    rw [e1, e2] at HF
    clear h hK hok hk e1 e2
    go_enter Tryz.func78, Tryz.ntmps78
    go_wp2_with fail
    refine HF.out.mono ?_
    rintro e w1 ⟨rfl, hb1⟩
    have HB1 := Lib.hid hb1
    have HZ := Lib.hid (HasCells.new w1 [.string ⟨#[]⟩, .bool false, .int .u64 0, .int .u64 0, .int .u64 0, .int .u64 0, .int .u64 0, .string ⟨#[]⟩, .string ⟨#[]⟩, .bool false, .string ⟨#[]⟩, .slice none 0 0] 52)
    clear hb1
    go_wp2_with ((with_reducible refine store_gateK 52 ?_); refine wpList_store_mid rfl 52 _ _ rfl w1.heap.size 0 #[.string ⟨#[]⟩, .bool false, .int .u64 0, .int .u64 0, .int .u64 0, .int .u64 0, .int .u64 0, .string ⟨#[]⟩, .string ⟨#[]⟩, .bool false, .string ⟨#[]⟩, .slice none 0 0] rfl rfl (HZ.out.there 0 _ (Nat.le_refl _)) infoKn z12_one ?_)
    refine bodyPost_ret (results_tmp2E rfl _ _) rfl ?_
    exact ⟨rfl, HB1.out.trans (below_sets (by have := HB1.out.size; omega) _ _ _ ((Below.refl _ _).alloc (by have := HB1.out.size; omega) _))⟩
  | some k =>
    have e1 : findC S a = kcells k := by unfold findC; rw [hk]
    have e2 : findN S a = 0 := by unfold findN; rw [hk]
    have hone := kcells_one (hok k hk)
    rw [e1, e2] at HF
    obtain ⟨H, hH⟩ : ∃ H, kecB [] = H := ⟨_, rfl⟩
    dsimp only
    rw [hH]
    have HH := Lib.hid hH
    clear h hK hok hk e1 e2 hH
    cases hth : k.there with
    | false =>
      rw [show (if (false && !((k.hash.toList == H.toList)) && k.has) = true then k.code else (⟨#[]⟩ : ByteArray)) = ⟨#[]⟩ from rfl, show (if (false && !((k.hash.toList == H.toList)) && !k.has) = true then 190 else 0) = 0 from rfl]
      have HTH := Lib.hid hth
      clear hth
      go_enter Tryz.func78, Tryz.ntmps78
      go_wp2_with fail
      refine HF.out.mono ?_
      rintro e w1 ⟨rfl, hb1⟩
      have HB1 := Lib.hid hb1
      have HZ := Lib.hid (HasCells.new w1 [.string ⟨#[]⟩, .bool false, .int .u64 0, .int .u64 0, .int .u64 0, .int .u64 0, .int .u64 0, .string ⟨#[]⟩, .string ⟨#[]⟩, .bool false, .string ⟨#[]⟩, .slice none 0 0] 52)
      obtain ⟨w2, hw2⟩ : ∃ W, (w1.alloc (.cells #[.string ⟨#[]⟩, .bool false, .int .u64 0, .int .u64 0, .int .u64 0, .int .u64 0, .int .u64 0, .string ⟨#[]⟩, .string ⟨#[]⟩, .bool false, .string ⟨#[]⟩, .slice none 0 0] 52)).setCells w1.heap.size 0 (kcells k) = W := ⟨_, rfl⟩
      have HX := Lib.hid (show HasCells w2 w1.heap.size (kcells k) 52 from by rw [← hw2]; exact HZ.out.whole rfl)
      have HB2 := Lib.hid (show Below w1.heap.size w1 w2 from by rw [← hw2]; exact below_sets (Nat.le_refl _) _ _ _ ((Below.refl _ _).alloc (Nat.le_refl _) _))
      have HW2 := Lib.hid hw2
      have HK2 := Lib.hid (HKT.out.below (HB1.out.trans (HB2.out.mono HB1.out.size)))
      have c1e : (kcells k)[1]? = some (.bool false) := by rw [← HTH.out]; rfl
      clear hw2 hb1
      go_wp2_with ((with_reducible refine store_gateK 52 ?_); refine wpList_store_mid rfl 52 _ _ rfl w1.heap.size 0 (kcells k).toArray rfl rfl (HZ.out.there 0 _ (by simp [kcells])) (by rw [List.size_toArray]; exact infoKn) hone ?_; rw [show ((kcells k).toArray).toList = kcells k from rfl, HW2.out])
      have c1 := HX.out.cell (j := 1) c1e
      have c8 := HX.out.cell (j := 8) rfl
      refine wp_region_held_drew (S := (fun W => W.cell? ⟨w1.heap.size, 1, none⟩ = some (.bool false) ∧ W.cell? ⟨w1.heap.size, 8, none⟩ = some (.string k.hash))) (by kernel_rfl) (⟨c1, c8⟩) (fun hHeld => ?_)
      refine hT 0 ?_
      refine hD 1 ?_
      refine hT 2 ?_
      refine hT 3 ?_
      refine hV 4 ?_
      refine hV 5 ?_
      refine hV 6 ?_
      refine hV 7 ?_
      refine hV 8 ?_
      refine hV 9 ?_
      refine hT 10 ?_
      refine hT 11 ?_
      refine wpAnyH_done (by kernel_rfl) ?_ 0
      go_wp2
      refine bodyPost_ret (results_tmp2E rfl _ _) rfl ?_
      exact ⟨rfl, (HB1.out.trans (HB2.out.mono HB1.out.size)).drew⟩
    | true =>
      have hfd := field_code
      have HTH := Lib.hid hth
      clear hth
      cases hqe : (k.hash.toList == H.toList) with
      | true =>
        rw [show (if (true && !(true) && k.has) = true then k.code else (⟨#[]⟩ : ByteArray)) = ⟨#[]⟩ from rfl, show (if (true && !(true) && !k.has) = true then 190 else 0) = 0 from rfl]
        go_enter Tryz.func78, Tryz.ntmps78
        go_wp2_with fail
        refine HF.out.mono ?_
        rintro e w1 ⟨rfl, hb1⟩
        have HB1 := Lib.hid hb1
        have HZ := Lib.hid (HasCells.new w1 [.string ⟨#[]⟩, .bool false, .int .u64 0, .int .u64 0, .int .u64 0, .int .u64 0, .int .u64 0, .string ⟨#[]⟩, .string ⟨#[]⟩, .bool false, .string ⟨#[]⟩, .slice none 0 0] 52)
        obtain ⟨w2, hw2⟩ : ∃ W, (w1.alloc (.cells #[.string ⟨#[]⟩, .bool false, .int .u64 0, .int .u64 0, .int .u64 0, .int .u64 0, .int .u64 0, .string ⟨#[]⟩, .string ⟨#[]⟩, .bool false, .string ⟨#[]⟩, .slice none 0 0] 52)).setCells w1.heap.size 0 (kcells k) = W := ⟨_, rfl⟩
        have HX := Lib.hid (show HasCells w2 w1.heap.size (kcells k) 52 from by rw [← hw2]; exact HZ.out.whole rfl)
        have HB2 := Lib.hid (show Below w1.heap.size w1 w2 from by rw [← hw2]; exact below_sets (Nat.le_refl _) _ _ _ ((Below.refl _ _).alloc (Nat.le_refl _) _))
        have HW2 := Lib.hid hw2
        have HK2 := Lib.hid (HKT.out.below (HB1.out.trans (HB2.out.mono HB1.out.size)))
        have c1e : (kcells k)[1]? = some (.bool true) := by rw [← HTH.out]; rfl
        clear hw2 hb1
        go_wp2_with ((with_reducible refine store_gateK 52 ?_); refine wpList_store_mid rfl 52 _ _ rfl w1.heap.size 0 (kcells k).toArray rfl rfl (HZ.out.there 0 _ (by simp [kcells])) (by rw [List.size_toArray]; exact infoKn) hone ?_; rw [show ((kcells k).toArray).toList = kcells k from rfl, HW2.out])
        have c1 := HX.out.cell (j := 1) c1e
        have c8 := HX.out.cell (j := 8) rfl
        refine wp_region_held_drew (S := (fun W => W.cell? ⟨w1.heap.size, 1, none⟩ = some (.bool true) ∧ W.cell? ⟨w1.heap.size, 8, none⟩ = some (.string k.hash))) (by kernel_rfl) (⟨c1, c8⟩) (fun hHeld => ?_)
        refine hT 0 ?_
        refine hD 1 ?_
        refine hT 2 ?_
        refine hT 3 ?_
        refine hT 4 ?_
        refine hT 5 ?_
        refine hD 6 ?_
        refine wpAnyH_ready (rs := [7]) (by kernel_rfl) (by simp) ?_
        refine AllReadyH.cons rfl (fun K hK => ?_) AllReadyH.nil
        go_simp
        go_at_call 86
        refine (empty_any _ (HK2.out.below (Below.refl _ _).drew)).mono ?_
        rintro e w3 ⟨rfl, hb3⟩
        have HB3 := Lib.hid (HB2.out.trans (((Below.refl _ w2).drew.trans hb3).mono HB2.out.size))
        have HX3 := Lib.hid (HX.out.after ((Below.refl _ w2).drew.trans hb3))
        clear hb3
        rw [HH.out]
        unfold acctV
        refine hK.out _ _ (⟨HX3.out.cell (j := 1) c1e, HX3.out.cell (j := 8) rfl⟩) (fun hHeld => ?_)
        clear hK K
        try simp only [Act.put, zq]
        refine hT 8 ?_
        refine hT 9 ?_
        refine hT 10 ?_
        refine hT 11 ?_
        refine wpAnyH_done (by kernel_rfl) ?_ 0
        go_wp2
        refine bodyPost_ret (results_tmp2E rfl _ _) rfl ?_
        exact ⟨rfl, HB1.out.trans (HB3.out.mono HB1.out.size)⟩
      | false =>
        cases hha : k.has with
        | false =>
          rw [show (if (true && !(false) && false) = true then k.code else (⟨#[]⟩ : ByteArray)) = ⟨#[]⟩ from rfl, show (if (true && !(false) && !false) = true then 190 else 0) = 190 from rfl]
          go_enter Tryz.func78, Tryz.ntmps78
          go_wp2_with fail
          refine HF.out.mono ?_
          rintro e w1 ⟨rfl, hb1⟩
          have HB1 := Lib.hid hb1
          have HZ := Lib.hid (HasCells.new w1 [.string ⟨#[]⟩, .bool false, .int .u64 0, .int .u64 0, .int .u64 0, .int .u64 0, .int .u64 0, .string ⟨#[]⟩, .string ⟨#[]⟩, .bool false, .string ⟨#[]⟩, .slice none 0 0] 52)
          obtain ⟨w2, hw2⟩ : ∃ W, (w1.alloc (.cells #[.string ⟨#[]⟩, .bool false, .int .u64 0, .int .u64 0, .int .u64 0, .int .u64 0, .int .u64 0, .string ⟨#[]⟩, .string ⟨#[]⟩, .bool false, .string ⟨#[]⟩, .slice none 0 0] 52)).setCells w1.heap.size 0 (kcells k) = W := ⟨_, rfl⟩
          have HX := Lib.hid (show HasCells w2 w1.heap.size (kcells k) 52 from by rw [← hw2]; exact HZ.out.whole rfl)
          have HB2 := Lib.hid (show Below w1.heap.size w1 w2 from by rw [← hw2]; exact below_sets (Nat.le_refl _) _ _ _ ((Below.refl _ _).alloc (Nat.le_refl _) _))
          have HW2 := Lib.hid hw2
          have HK2 := Lib.hid (HKT.out.below (HB1.out.trans (HB2.out.mono HB1.out.size)))
          have c1e : (kcells k)[1]? = some (.bool true) := by rw [← HTH.out]; rfl
          clear hw2 hb1
          go_wp2_with ((with_reducible refine store_gateK 52 ?_); refine wpList_store_mid rfl 52 _ _ rfl w1.heap.size 0 (kcells k).toArray rfl rfl (HZ.out.there 0 _ (by simp [kcells])) (by rw [List.size_toArray]; exact infoKn) hone ?_; rw [show ((kcells k).toArray).toList = kcells k from rfl, HW2.out])
          have c1 := HX.out.cell (j := 1) c1e
          have c8 := HX.out.cell (j := 8) rfl
          refine wp_region_held_drew (S := (fun W => W.cell? ⟨w1.heap.size, 1, none⟩ = some (.bool true) ∧ W.cell? ⟨w1.heap.size, 8, none⟩ = some (.string k.hash))) (by kernel_rfl) (⟨c1, c8⟩) (fun hHeld => ?_)
          refine hT 0 ?_
          refine hD 1 ?_
          refine hT 2 ?_
          refine hT 3 ?_
          refine hT 4 ?_
          refine hT 5 ?_
          refine hD 6 ?_
          refine wpAnyH_ready (rs := [7]) (by kernel_rfl) (by simp) ?_
          refine AllReadyH.cons rfl (fun K hK => ?_) AllReadyH.nil
          go_simp
          go_at_call 86
          refine (empty_any _ (HK2.out.below (Below.refl _ _).drew)).mono ?_
          rintro e w3 ⟨rfl, hb3⟩
          have HB3 := Lib.hid (HB2.out.trans (((Below.refl _ w2).drew.trans hb3).mono HB2.out.size))
          have HX3 := Lib.hid (HX.out.after ((Below.refl _ w2).drew.trans hb3))
          clear hb3
          rw [HH.out]
          unfold acctV
          refine hK.out _ _ (⟨HX3.out.cell (j := 1) c1e, HX3.out.cell (j := 8) rfl⟩) (fun hHeld => ?_)
          clear hK K
          try simp only [Act.put, zq]
          refine hT 8 ?_
          refine hT 9 ?_
          refine hT 10 ?_
          refine hT 11 ?_
          refine wpAnyH_done (by kernel_rfl) ?_ 0
          have c10 := HX3.out.cell (j := 10) rfl
          have c9 : w3.cell? ⟨w1.heap.size, 9, none⟩ = some (.bool false) := by rw [← hha]; exact HX3.out.cell (j := 9) rfl
          go_wp2
          refine bodyPost_ret (results_tmp2E rfl _ _) rfl ?_
          exact ⟨rfl, HB1.out.trans (HB3.out.mono HB1.out.size)⟩
        | true =>
          rw [show (if (true && !(false) && true) = true then k.code else (⟨#[]⟩ : ByteArray)) = k.code from rfl, show (if (true && !(false) && !true) = true then 190 else 0) = 0 from rfl]
          go_enter Tryz.func78, Tryz.ntmps78
          go_wp2_with fail
          refine HF.out.mono ?_
          rintro e w1 ⟨rfl, hb1⟩
          have HB1 := Lib.hid hb1
          have HZ := Lib.hid (HasCells.new w1 [.string ⟨#[]⟩, .bool false, .int .u64 0, .int .u64 0, .int .u64 0, .int .u64 0, .int .u64 0, .string ⟨#[]⟩, .string ⟨#[]⟩, .bool false, .string ⟨#[]⟩, .slice none 0 0] 52)
          obtain ⟨w2, hw2⟩ : ∃ W, (w1.alloc (.cells #[.string ⟨#[]⟩, .bool false, .int .u64 0, .int .u64 0, .int .u64 0, .int .u64 0, .int .u64 0, .string ⟨#[]⟩, .string ⟨#[]⟩, .bool false, .string ⟨#[]⟩, .slice none 0 0] 52)).setCells w1.heap.size 0 (kcells k) = W := ⟨_, rfl⟩
          have HX := Lib.hid (show HasCells w2 w1.heap.size (kcells k) 52 from by rw [← hw2]; exact HZ.out.whole rfl)
          have HB2 := Lib.hid (show Below w1.heap.size w1 w2 from by rw [← hw2]; exact below_sets (Nat.le_refl _) _ _ _ ((Below.refl _ _).alloc (Nat.le_refl _) _))
          have HW2 := Lib.hid hw2
          have HK2 := Lib.hid (HKT.out.below (HB1.out.trans (HB2.out.mono HB1.out.size)))
          have c1e : (kcells k)[1]? = some (.bool true) := by rw [← HTH.out]; rfl
          clear hw2 hb1
          go_wp2_with ((with_reducible refine store_gateK 52 ?_); refine wpList_store_mid rfl 52 _ _ rfl w1.heap.size 0 (kcells k).toArray rfl rfl (HZ.out.there 0 _ (by simp [kcells])) (by rw [List.size_toArray]; exact infoKn) hone ?_; rw [show ((kcells k).toArray).toList = kcells k from rfl, HW2.out])
          have c1 := HX.out.cell (j := 1) c1e
          have c8 := HX.out.cell (j := 8) rfl
          refine wp_region_held_drew (S := (fun W => W.cell? ⟨w1.heap.size, 1, none⟩ = some (.bool true) ∧ W.cell? ⟨w1.heap.size, 8, none⟩ = some (.string k.hash))) (by kernel_rfl) (⟨c1, c8⟩) (fun hHeld => ?_)
          refine hT 0 ?_
          refine hD 1 ?_
          refine hT 2 ?_
          refine hT 3 ?_
          refine hT 4 ?_
          refine hT 5 ?_
          refine hD 6 ?_
          refine wpAnyH_ready (rs := [7]) (by kernel_rfl) (by simp) ?_
          refine AllReadyH.cons rfl (fun K hK => ?_) AllReadyH.nil
          go_simp
          go_at_call 86
          refine (empty_any _ (HK2.out.below (Below.refl _ _).drew)).mono ?_
          rintro e w3 ⟨rfl, hb3⟩
          have HB3 := Lib.hid (HB2.out.trans (((Below.refl _ w2).drew.trans hb3).mono HB2.out.size))
          have HX3 := Lib.hid (HX.out.after ((Below.refl _ w2).drew.trans hb3))
          clear hb3
          rw [HH.out]
          unfold acctV
          refine hK.out _ _ (⟨HX3.out.cell (j := 1) c1e, HX3.out.cell (j := 8) rfl⟩) (fun hHeld => ?_)
          clear hK K
          try simp only [Act.put, zq]
          refine hT 8 ?_
          refine hT 9 ?_
          refine hT 10 ?_
          refine hT 11 ?_
          refine wpAnyH_done (by kernel_rfl) ?_ 0
          have c10 := HX3.out.cell (j := 10) rfl
          have c9 : w3.cell? ⟨w1.heap.size, 9, none⟩ = some (.bool true) := by rw [← hha]; exact HX3.out.cell (j := 9) rfl
          go_wp2
          refine bodyPost_ret (results_tmp2E rfl _ _) rfl ?_
          exact ⟨rfl, HB1.out.trans (HB3.out.mono HB1.out.size)⟩
end Go.Proofs.YtlelgbmbmajfmaaGreatDoor

namespace Go.Proofs.YtlelgbmbmajfmaaGreatDoor
open Go.RowKit Go.Shelf Go.Lib
attribute [local go_sem] Oper.semAt_some
theorem backwardF_any (F : Fence) (n : Nat) (hf : F.fn 81) (hro : F.round = none) (v : Value) (hv : v.oneCell' = true) (w : World) :
    CallsIn F n Tryz.prog 81 #[v] w fun e w' => e = .returned (.func (.func 107) #[] #[.pointer (some ⟨w.heap.size, 0, none⟩)]) ∧ w' = w.alloc (.cells #[v] 103) := by
  refine callsIn_of_wp Tryz.func81 rfl hf ?_ hro
  simp only [Tryz.ntmps81, List.size_toArray, List.length_cons, List.length_nil, Nat.reduceAdd, Nat.reduceSub, Array.replicate_succ, Array.replicate_zero, List.push_toArray, List.append_toArray, List.nil_append, List.cons_append]
  cases v <;> first | (cases hv; done) | skip
  all_goals gi_wp2
  all_goals go_ret
  all_goals exact ⟨rfl, rfl⟩
set_option maxRecDepth 100000 in
set_option maxHeartbeats 6400000 in
theorem backF_body (n : Nat) (l Bn : Nat) (J : List Nat → World → Prop) (W : World) (hb : HasCells W Bn [.slice none 0 0] 103) (h0 : J [] W) :
    CallsIn Fence.wide n Tryz.prog 107 #[.func (.yield l) #[] #[], .pointer (some ⟨Bn, 0, none⟩)] W fun e W' => (∃ v, e = .returned v) ∧ J [] W' := by
  have c1 := hb.cell (j := 0) rfl
  have HJ := Lib.hid h0
  clear hb h0
  refine callsIn_of_wp Tryz.func107 rfl trivial ?_ rfl
  simp only [Tryz.ntmps107, List.size_toArray, List.length_cons, List.length_nil, Nat.reduceAdd, Nat.reduceSub, Array.replicate_succ, Array.replicate_zero, List.push_toArray, List.append_toArray, List.nil_append, List.cons_append]
  gi_wp2
  gi_loopw [3] (fun iv wr => iv = .int .i64 (-1) ∧ Hid (J [] wr)) (fun iv wr => 0)
  case atStart => exact ⟨rfl, HJ⟩
  case round =>
    obtain ⟨rfl, hJ⟩ := hrel
    gi_wp2
    go_end0
    exact ⟨⟨_, rfl⟩, hJ.out⟩
set_option maxRecDepth 100000 in
set_option maxHeartbeats 6400000 in
theorem back_none (B : Nat) (S : StE) (w : World) (h : StAt B w S) (hu : S.undo = .slice none 0 0) : Calls Tryz.prog 60 #[.pointer (some ⟨B + 6, 0, none⟩), .int .i64 0] w fun e w' => e = .returned (.int .i64 0) ∧ Below w.heap.size w w' := by
  have hlt := h.lt
  have c1 := h.cells.cell (j := 7) rfl
  rw [hu] at c1
  have HC := Lib.hid h.cells
  have HU := Lib.hid hu
  clear h hu
  refine (callsIn_wide (n := 9)).1 ?_
  refine callsIn_of_wp_marks Tryz.func60 rfl trivial ?_ rfl
  simp only [Tryz.ntmps60, List.size_toArray, List.length_cons, List.length_nil, Nat.reduceAdd, Nat.reduceSub, Array.replicate_succ, Array.replicate_zero, List.push_toArray, List.append_toArray, List.nil_append, List.cons_append]
  gi_wp2_with (refine ⟨trivial, ?_⟩; gi_at_call 81; refine (backwardF_any Fence.wide _ trivial rfl _ rfl _).mono ?_; rintro e w' ⟨rfl, rfl⟩)
  have hz := HasCells.new w [.slice none 0 0] 103
  obtain ⟨W0, hW0⟩ : ∃ W, w.alloc (.cells #[.slice none 0 0] 103) = W := ⟨_, rfl⟩
  have hs0 : W0.heap.size = w.heap.size + 1 := by rw [← hW0]; exact World.size_alloc _ _
  have hb0 : Below w.heap.size w W0 := by rw [← hW0]; exact (Below.refl _ _).alloc (Nat.le_refl _) _
  rw [show w.alloc (.cells ([.slice none 0 0] : List Value).toArray 103) = W0 from hW0] at hz
  rw [hW0]
  have HZ := Lib.hid hz
  clear hW0 hz c1
  refine wpIn_rangeFunc_S rfl (by omega) (gf := 107) (lb := #[.pointer (some ⟨w.heap.size, 0, none⟩)]) rfl trivial (enters_of Tryz.func107 (by kernel_rfl) rfl)
    (encs := fun (_ : Nat) => #[undef, undef]) (Step := fun A B => A = B) (Good := fun _ _ _ _ => False) (Kp := fun _ _ => True) (S := fun xs W' => xs = []) (Sp := fun _ _ => True) (w0 := W0)
    (fun l J Jx W1 hW hJs _ hY h0 => (backF_body _ l w.heap.size J W1 (HZ.out.after hW) h0).mono (fun e w' h => ⟨h.1, .inl ⟨[], rfl, h.2⟩⟩))
    (fun _ _ => trivial) (fun W1 l o o' hl _ _ _ => trivial) (Below.refl _ _) (fun _ => rfl)
    (fun A B k o hst hk hA _ => by subst hst; exact hA)
    (fun pre W1 => Below w.heap.size w W1) (fun _ _ _ => False) (fun pre x a' W1 => False)
    ?sown ?sown2 ?own ?ownx1 ?ownx ?ist (fun _ _ _ _ h => h.elim) hb0 ?assign ?body ?done (fun _ _ _ _ _ _ h => h.elim)
  case sown => intro xs W1 W2 row h _ _; exact h
  case sown2 => intro _ _ _ _ _ _ _; trivial
  case own =>
    rintro pre W1 W2 row h3 hg hr
    exact h3.trans ⟨hg.os, hg.tape, hg.output, hg.size, fun k h => hg.block k (by have := h3.size; omega) (fun e => by have := (hr k e.symm).1; omega)⟩
  case ownx1 => intro c s W1 W2 row h _ _; exact h
  case ownx => intro pre x a' _ W1 W2 row h _ _; exact h
  case ist => intro pre A B h hst; subst hst; exact h
  case assign => intro l pre x Wa Wb K _ _ h _; exact h.elim
  case body => intro l pre x a' W1 hl _ h; exact h.elim
  case done =>
    rintro D xs W1 hD rfl h3 hK
    have hc := HC.out.after h3
    have c1 := hc.cell (j := 7) rfl
    rw [HU.out] at c1
    have i1 := hc.frozen 7
    have HC1 := Lib.hid hc
    have H3 := Lib.hid h3
    have HKD := Lib.hid hK
    clear h3 hK hc
    gi_wp2
    obtain ⟨W2, hW2⟩ : ∃ W, W1.setCell ⟨B + 6, 7, none⟩ (.slice none 0 0) = W := ⟨_, rfl⟩
    have hh : ∀ k, W2.heap[k]? = W1.heap[k]? := fun k => by
      by_cases hk : k = B + 6
      · subst hk
        have h5 : HasCells W2 (B + 6) (stC B S) 105 := by
          rw [← hW2]
          have h6 := HC1.out.set 7 (.slice none 0 0)
          have e : (stC B S).set 7 (.slice none 0 0) = stC B S := by unfold stC; rw [HU.out]; rfl
          rw [e] at h6
          exact h6
        exact h5.trans HC1.out.symm
      · rw [← hW2]; exact Below.heap_setCell W1 ⟨B + 6, 7, none⟩ _ k hk
    have hbs : Below w.heap.size w W2 := ⟨by rw [← hW2]; exact H3.out.os, by rw [← hW2]; exact H3.out.tape, by rw [← hW2]; exact H3.out.output, by rw [← hW2, World.size_setCell]; exact H3.out.size, fun k hk => (hh k).trans (H3.out.block k hk)⟩
    rw [hW2]
    have hK2 : W2.heap[D]? = some (.deferred (some [])) := (hh D).trans HKD.out
    have hgr : W2.grownBy (W2.putObj D (.deferred none)) (some D) := grownBy_putObj' W2 D _
    refine ⟨by simp, .inl ⟨_, _, rfl, run_takeDeferred hK2, ?_⟩⟩
    refine ⟨_, results_tmp rfl _ _ _, ?_⟩
    exact ⟨rfl, hbs.trans ⟨hgr.os, hgr.tape, hgr.output, hgr.size, fun k h => World.putObj_heap_other (by omega)⟩⟩
end Go.Proofs.YtlelgbmbmajfmaaGreatDoor

namespace Go.Proofs.YtlelgbmbmajfmaaGreatDoor
open Go.RowKit Go.Shelf Go.Lib
attribute [local go_sem] Oper.semAt_some
theorem zeroWd (w : World) : (zeroValue 24).run Tryz.prog w = .ok (.agg #[.int .u64 0, .int .u64 0, .int .u64 0, .int .u64 0]) w := zero_of (by kernel_rfl) w
theorem look_bl {B : Nat} {F : ByteArray → Option Nat} {W : World} (h : MapV IsStr W B (strF (wdV F))) (a : ByteArray) : (Instr.lookup 99 (.map (some B)) (.string a) false).run Tryz.prog W = .ok (.agg #[.int .u64 (limb ((F a).getD 0) 0), .int .u64 (limb ((F a).getD 0) 1), .int .u64 (limb ((F a).getD 0) 2), .int .u64 (limb ((F a).getD 0) 3)]) W := by
  have := h.lookup (P := Tryz.prog) (mty := 99) Tryz.underlying99 (keyFit_string Tryz.underlying9) (zeroWd W) (.string a) ⟨_, rfl⟩ false
  rw [this]
  have e : strF (wdV F) (.string a) = (F a).map fun v => .agg #[.int .u64 (limb v 0), .int .u64 (limb v 1), .int .u64 (limb v 2), .int .u64 (limb v 3)] := rfl
  rw [e]
  cases F a with
  | none => simp only [limb_nought, Option.getD_none]; rfl
  | some v => rfl
def balN (S : StE) (a : ByteArray) : Nat := match S.kn a with
  | some _ => (S.bl a).getD 0
  | none => 0
set_option maxRecDepth 100000 in
set_option maxHeartbeats 6400000 in
theorem balance_any (B : Nat) (S : StE) (a : ByteArray) (w : World) (h : StAt B w S) (hok : ∀ k, S.kn a = some k → KnOk k) : Calls Tryz.prog 39 #[.pointer (some ⟨B + 6, 0, none⟩), .string a] w fun e w' => e = .returned (.tuple #[.agg #[.int .u64 (limb (balN S a) 0), .int .u64 (limb (balN S a) 1), .int .u64 (limb (balN S a) 2), .int .u64 (limb (balN S a) 3)], .int .i64 (findN S a)]) ∧ Below w.heap.size w w' := by
  have hlt := h.lt
  have HF := Lib.hid (fun W (h : StAt B W S) => find_any B S a W h hok)
  have hlen := findC_length S a
  have hone := findC_one hok
  have hz1 := HasCells.new w [.int .u64 0, .int .u64 0, .int .u64 0, .int .u64 0] 24
  obtain ⟨w1, hw1⟩ : ∃ W, w.alloc (.cells #[.int .u64 0, .int .u64 0, .int .u64 0, .int .u64 0] 24) = W := ⟨_, rfl⟩
  rw [show w.alloc (.cells ([.int .u64 0, .int .u64 0, .int .u64 0, .int .u64 0] : List Value).toArray 24) = w1 from hw1] at hz1
  have HZ1 := Lib.hid hz1
  have HB1 := Lib.hid (show Below w.heap.size w w1 from by rw [← hw1]; exact (Below.refl _ _).alloc (Nat.le_refl _) _)
  have HS1 := Lib.hid (h.after HB1.out)
  have HW1 := Lib.hid hw1
  obtain ⟨cs, hcs⟩ : ∃ cs, findC S a = cs := ⟨_, rfl⟩
  obtain ⟨nn, hnn⟩ : ∃ n, findN S a = n := ⟨_, rfl⟩
  rw [hcs] at hlen hone
  rw [hcs, hnn] at HF
  rw [hnn]
  have HLEN := Lib.hid hlen
  have HI := Lib.hid (show (Tryz.prog.info? 52).map (·.size) = some cs.toArray.size from by rw [List.size_toArray, hlen]; exact infoKn)
  have HONE := Lib.hid hone
  cases hk : S.kn a with
  | none =>
    obtain rfl : 190 = nn := by rw [← hnn]; unfold findN; rw [hk]
    have hb : balN S a = 0 := by unfold balN; rw [hk]
    rw [hb]
    simp only [limb_nought]
    clear h hok hz1 hw1 hlen hone hcs hnn hk hb
    go_enter Tryz.func39, Tryz.ntmps39
    go_wp2_with (rw [HW1.out])
    refine (HF.out _ HS1.out).mono ?_
    rintro e w2 ⟨rfl, hb2⟩
    have HB2 := Lib.hid (HB1.out.trans (hb2.mono HB1.out.size))
    have HZ2 := Lib.hid (HZ1.out.after hb2)
    have HK2 := Lib.hid (HasCells.new w2 [.string ⟨#[]⟩, .bool false, .int .u64 0, .int .u64 0, .int .u64 0, .int .u64 0, .int .u64 0, .string ⟨#[]⟩, .string ⟨#[]⟩, .bool false, .string ⟨#[]⟩, .slice none 0 0] 52)
    obtain ⟨w3, hw3⟩ : ∃ W, (w2.alloc (.cells #[.string ⟨#[]⟩, .bool false, .int .u64 0, .int .u64 0, .int .u64 0, .int .u64 0, .int .u64 0, .string ⟨#[]⟩, .string ⟨#[]⟩, .bool false, .string ⟨#[]⟩, .slice none 0 0] 52)).setCells w2.heap.size 0 cs = W := ⟨_, rfl⟩
    have hb3 : Below w2.heap.size w2 w3 := by rw [← hw3]; exact below_sets (Nat.le_refl _) _ _ _ ((Below.refl _ _).alloc (Nat.le_refl _) _)
    have HB3 := Lib.hid (HB2.out.trans (hb3.mono HB2.out.size))
    have HZ3 := Lib.hid (HZ2.out.after hb3)
    have HW3 := Lib.hid hw3
    clear hb2 hb3 hw3
    go_wp2_with (first | ((with_reducible refine store_gateK 52 ?_); refine wpList_store_mid rfl 52 _ _ rfl w2.heap.size 0 cs.toArray rfl rfl (HK2.out.there 0 _ (by rw [List.size_toArray, HLEN.out]; exact Nat.le_refl _)) HI.out HONE.out ?_; rw [show cs.toArray.toList = cs from rfl, HW3.out]) | ((with_reducible refine store_gateK 24 ?_); refine wpList_store_mid rfl 24 _ _ rfl w.heap.size 0 #[.int .u64 0, .int .u64 0, .int .u64 0, .int .u64 0] rfl rfl (HZ3.out.there 0 _ (Nat.le_refl _)) infoW (by simp [Value.oneCell']) ?_))
    have hf := HZ3.out.whole (vs := [.int .u64 0, .int .u64 0, .int .u64 0, .int .u64 0]) rfl
    refine bodyPost_ret (results_cells2 rfl _ _ w.heap.size [.int .u64 0, .int .u64 0, .int .u64 0, .int .u64 0] _ (by rfl) hf.range Tryz.underlying24 rfl infoW) rfl ⟨rfl, below_sets (Nat.le_refl _) _ _ _ HB3.out⟩
  | some k =>
    obtain rfl : 0 = nn := by rw [← hnn]; unfold findN; rw [hk]
    have hb : balN S a = (S.bl a).getD 0 := by unfold balN; rw [hk]
    have hlk := fun W (h : StAt B W S) => look_bl h.bl a
    rw [← hb] at hlk
    obtain ⟨bv, hbv⟩ : ∃ v, balN S a = v := ⟨_, rfl⟩
    rw [hbv] at hlk ⊢
    have HLK := Lib.hid hlk
    clear h hok hz1 hw1 hlen hone hcs hnn hk hb hlk hbv
    go_enter Tryz.func39, Tryz.ntmps39
    go_wp2_with (rw [HW1.out])
    refine (HF.out _ HS1.out).mono ?_
    rintro e w2 ⟨rfl, hb2⟩
    have HB2 := Lib.hid (HB1.out.trans (hb2.mono HB1.out.size))
    have HZ2 := Lib.hid (HZ1.out.after hb2)
    have HK2 := Lib.hid (HasCells.new w2 [.string ⟨#[]⟩, .bool false, .int .u64 0, .int .u64 0, .int .u64 0, .int .u64 0, .int .u64 0, .string ⟨#[]⟩, .string ⟨#[]⟩, .bool false, .string ⟨#[]⟩, .slice none 0 0] 52)
    obtain ⟨w3, hw3⟩ : ∃ W, (w2.alloc (.cells #[.string ⟨#[]⟩, .bool false, .int .u64 0, .int .u64 0, .int .u64 0, .int .u64 0, .int .u64 0, .string ⟨#[]⟩, .string ⟨#[]⟩, .bool false, .string ⟨#[]⟩, .slice none 0 0] 52)).setCells w2.heap.size 0 cs = W := ⟨_, rfl⟩
    have hb3 : Below w2.heap.size w2 w3 := by rw [← hw3]; exact below_sets (Nat.le_refl _) _ _ _ ((Below.refl _ _).alloc (Nat.le_refl _) _)
    have HB3 := Lib.hid (HB2.out.trans (hb3.mono HB2.out.size))
    have HZ3 := Lib.hid (HZ2.out.after hb3)
    have hs3 := (HS1.out.after hb2).after hb3
    have c1 := hs3.cells.cell (j := 1) rfl
    have hl3 := HLK.out w3 hs3
    have HW3 := Lib.hid hw3
    clear hb2 hb3 hw3 hs3
    go_wp2_with (first | ((with_reducible refine store_gateK 52 ?_); refine wpList_store_mid rfl 52 _ _ rfl w2.heap.size 0 cs.toArray rfl rfl (HK2.out.there 0 _ (by rw [List.size_toArray, HLEN.out]; exact Nat.le_refl _)) HI.out HONE.out ?_; rw [show cs.toArray.toList = cs from rfl, HW3.out]) | ((with_reducible refine store_gateK 24 ?_); refine wpList_store_mid rfl 24 _ _ rfl w.heap.size 0 #[.int .u64 (limb bv 0), .int .u64 (limb bv 1), .int .u64 (limb bv 2), .int .u64 (limb bv 3)] rfl rfl (HZ3.out.there 0 _ (Nat.le_refl _)) infoW (oneW bv) ?_))
    have hf := HZ3.out.whole (vs := [.int .u64 (limb bv 0), .int .u64 (limb bv 1), .int .u64 (limb bv 2), .int .u64 (limb bv 3)]) rfl
    refine bodyPost_ret (results_cells2 rfl _ _ w.heap.size [.int .u64 (limb bv 0), .int .u64 (limb bv 1), .int .u64 (limb bv 2), .int .u64 (limb bv 3)] _ (by rfl) hf.range Tryz.underlying24 rfl infoW) rfl ⟨rfl, below_sets (Nat.le_refl _) _ _ _ HB3.out⟩
end Go.Proofs.YtlelgbmbmajfmaaGreatDoor
