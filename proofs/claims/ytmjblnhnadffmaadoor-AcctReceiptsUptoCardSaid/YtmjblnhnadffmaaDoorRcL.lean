/- pharosref16.ReceiptFrom behind its tests: its loop and its end, for any frame. -/
import Derived.Test.YtmjblnhnadffmaaDoorRcH
import Derived.Test.YtmjblnhnadffmaaDoorRcC
import Derived.Test.YtmjblnhnadffmaaDoorRcS
namespace Go.Proofs.YtmjblnhnadffmaaDoor
open Go.RowKit Go.Shelf Go.Lib
attribute [local go_sem] Oper.semAt_some

/-- the body behind its tests -/
noncomputable def rfRest : Code := match Tryd.f17.body with
  | some (.seq _ (.seq _ (.seq _ (.seq _ (.seq _ (.seq _ (.seq _ r))))))) => r
  | _ => .ret
set_option maxRecDepth 100000 in
set_option maxHeartbeats 12800000 in
theorem rf_rest (s : List UInt8) (w : World) (rb xb lb gc oc n1 nc : Nat) (qc : Option Addr) (ys : List Item) (g : Bool) (gas N : Nat) (u0 u1 u5 u6 u7 u8 u10 u11 u12 u13 u14 u15 u16 u17 u18 u19 u20 u21 u22 u23 u24 u25 u26 u27 u28 u29 u30 u31 u32 u33 u34 u35 u36 u37 u38 u39 u40 u41 u42 u43 u44 u45 u46 u47 u48 u49 u50 u51 u52 u53 u54 u55 u56 u57 u58 u59 u60 u61 u62 u63 u64 u65 u66 u67 u68 u69 u70 u71 u72 u73 u74 u75 u76 u77 u78 u79 u80 u81 u82 u83 u84 u85 u86 u87 u88 u89 u90 u91 u92 u93 u94 u95 u96 u97 u98 u99 u100 u101 u102 u103 u104 u105 u106 u107 u108 u109 u110 u111 u112 u113 u114 u115 u116 u117 u118 u119 u120 u121 u122 u123 : Value) (W : World)
    (HB : Hid (Below w.heap.size w W)) (hrb : w.heap.size ≤ rb) (hlb : w.heap.size ≤ lb) (hne : rb ≠ lb) (h0 : HasCells W rb rcptZ 38)
    (h4 : W.cell? ⟨xb, 2, none⟩ = some (.slice (some ⟨gc, oc, none⟩) 3 n1)) (hx : xb ≠ rb ∧ xb ≠ lb) (hg : gc ≠ rb ∧ gc ≠ lb) (h8 : HasCells W lb [.bool g, .int .u64 gas, .slice none 0 0] 38)
    (h9 : W.cell? ⟨gc, oc + 8, none⟩ = some (.slice qc N nc)) (HN : Hid (ys.length = N)) (HRD : Hid (ReadsIn W (fun q => q < W.heap.size ∧ q ≠ rb ∧ q ≠ lb) (.slice qc N nc) ys)) (hlen : N ≤ 65536) (HCH : Hid (∀ y ∈ ys, y.list.length ≤ 65536 ∧ ∀ z ∈ y.list, z.list.length ≤ 65536))
    (HGOOD : Hid (ys.all logB = true → rcptOf s = (g, gas, ys.map logI) ∧ rcptErr s = 0)) (HBAD : Hid (ys.all logB = false → rcptOf s = (false, 0, []) ∧ rcptErr s = 160)) :
    rfRest.wp Tryd.prog (bodyPost Tryd.prog Tryd.f17 (fun e w' => RcptIs s e w w')) ⟨#[u0, u1, .pointer (some ⟨rb, 0, none⟩), .int .i64 0, .pointer (some ⟨xb, 0, none⟩), u5, u6, u7, u8, .pointer (some ⟨lb, 0, none⟩), u10, u11, u12, u13, u14, u15, u16, u17, u18, u19, u20, u21, u22, u23, u24, u25, u26, u27, u28, u29, u30, u31, u32, u33, u34, u35, u36, u37, u38, u39, u40, u41, u42, u43, u44, u45, u46, u47, u48, u49, u50, u51, u52, u53, u54, u55, u56, u57, u58, u59, u60, u61, u62, u63, u64, u65, u66, u67, u68, u69, u70, u71, u72, u73, u74, u75, u76, u77, u78, u79, u80, u81, u82, u83, u84, u85, u86, u87, u88, u89, u90, u91, u92, u93, u94, u95, u96, u97, u98, u99, u100, u101, u102, u103, u104, u105, u106, u107, u108, u109, u110, u111, u112, u113, u114, u115, u116, u117, u118, u119, u120, u121, u122, u123], []⟩ W := by
  show Code.wp _ _ _ _ _
  dsimp only [rfRest, Tryd.f17]
  have H0 := Lib.hid h0
  have H8 := Lib.hid h8
  have HLT := Lib.hid (And.intro h0.lt h8.lt)
  have H4 := Lib.hid h4
  have H9 := Lib.hid h9
  clear h0 h8 h4 h9
  go_wp2_with fail
  go_loopw [3, 10] (fun r3 i wr => r3 = .int .i64 0 ∧ ∃ (k : Nat) (v : Value) (L : List (LogD × Value)), k ≤ N ∧ i = .int .i64 k ∧ Aside (HasCells wr rb rcptZ 38) ∧ Aside (HasCells wr lb [.bool g, .int .u64 gas, v] 38) ∧ Aside (RowL W.heap.size wr v L) ∧ Aside (L.map Prod.fst = (ys.take k).map logI) ∧ Aside (∀ j y, j < k → ys[j]? = some y → logB y = true) ∧ Aside (Below w.heap.size w wr) ∧ Aside (∀ q, q < W.heap.size → q ≠ lb → wr.heap[q]? = W.heap[q]?) ∧ Aside (W.heap.size ≤ wr.heap.size)) (fun _ i _ => N - (RowKit.intOf i).toNat)
  case atStart => exact ⟨rfl, 0, _, [], Nat.zero_le _, rfl, H0.out, H8.out, RowL.nil _ _, rfl, fun j y h => by omega, HB.out, fun _ _ _ => rfl, Nat.le_refl _⟩
  case round =>
    obtain ⟨rfl, k, v, L, hk, rfl, HZ, HC, HO, HLM, HAL, HBR, HKP, HWS⟩ := hrel
    have p4 : wr.cell? ⟨xb, 2, none⟩ = some (.slice (some ⟨gc, oc, none⟩) 3 n1) := (World.cell?_of_block (a := ⟨xb, 2, none⟩) (HKP.out xb (World.block_lt_of_cell? _ _ H4.out) hx.2)).trans H4.out
    have p9 : wr.cell? ⟨gc, oc + 8, none⟩ = some (.slice qc N nc) := (World.cell?_of_block (a := ⟨gc, oc + 8, none⟩) (HKP.out gc (World.block_lt_of_cell? _ _ H9.out) hg.2)).trans H9.out
    have p9' : wr.cell? ⟨gc, oc + 6 + 2, none⟩ = some (.slice qc N nc) := p9
    have g1 : (0 : Int) ≤ k := by omega
    by_cases hlt : k < N
    · have g2 : (k : Int) < N := by omega
      obtain ⟨y, hy⟩ : ∃ y, ys[k]? = some y := ⟨_, List.getElem?_eq_getElem (by rw [HN.out]; exact hlt)⟩
      have hrd : Reads wr wr.heap.size (.slice qc N nc) ys := HRD.out.kept (fun q u o hq hc => (World.cell?_of_block (a := ⟨q, o, none⟩) (HKP.out q hq.1 hq.2.2)).trans hc) (fun q hq => Nat.lt_of_lt_of_le hq.1 HWS.out)
      obtain ⟨-, gq, oq, rfl, hgq, hat⟩ := Reads.at hrd (by omega)
      obtain ⟨y0, y1, vy, y2, hvy⟩ := hat k y hy
      obtain ⟨qy, cy, rfl⟩ := hvy.form
      have HLO := Lib.hid (logOf_any y qy cy wr hvy ((HCH.out y (List.mem_of_getElem? hy)).1) ((HCH.out y (List.mem_of_getElem? hy)).2))
      have HY := Lib.hid hy
      obtain ⟨my, hmy⟩ : ∃ m, y.list.length = m := ⟨_, rfl⟩
      rw [hmy] at y2 HLO
      clear hrd hat hy hvy hmy
      go_wp2_with fail
      refine HLO.out.mono ?_
      rintro e w2 ⟨a, d, tv, rfl, ⟨pt, nt, ct, rfl⟩, htp, hb2⟩
      obtain ⟨ok, hok⟩ : ∃ b, logB y = b := ⟨_, rfl⟩
      rw [hok] at htp ⊢
      have HOK := Lib.hid hok
      have HTP := Lib.hid htp
      have HB2 := Lib.hid (HBR.out.trans (hb2.mono HBR.out.size))
      have HBS := Lib.hid hb2
      have HZ2 := Lib.hid (HZ.out.after hb2)
      have HC2 := Lib.hid (HC.out.after hb2)
      have HO2 := Lib.hid (HO.out.after hb2)
      clear hok htp hb2
      obtain ⟨w3, hw3⟩ : ∃ W, w2.alloc (.cells #[.string a, .slice pt nt ct, .string d] 64) = W := ⟨_, rfl⟩
      have hb3 : Below w2.heap.size w2 w3 := by rw [← hw3]; exact laid1 w2 _
      have HN3 := Lib.hid (show HasCells w3 w2.heap.size [.string a, .slice pt nt ct, .string d] 64 from by rw [← hw3]; exact HasCells.new _ _ _)
      have HW3 := Lib.hid hw3
      have HB3 := Lib.hid (HB2.out.trans (hb3.mono HB2.out.size))
      have HBS3 := Lib.hid (HBS.out.trans (hb3.mono HBS.out.size))
      have HZ3 := Lib.hid (HZ2.out.after hb3)
      have HC3 := Lib.hid (HC2.out.after hb3)
      have HO3 := Lib.hid (HO2.out.after hb3)
      clear hw3 hb3
      cases ok with
      | false =>
        have e0 := HZ3.out.cell (j := 0) rfl
        have e1 := HZ3.out.cell (j := 1) rfl
        have e2 := HZ3.out.cell (j := 2) rfl
        have f0 := HZ3.out.frozen 0
        have f1 := HZ3.out.frozen 1
        have f2 := HZ3.out.frozen 2
        go_wp2_with (rw [HW3.out])
        have hf : HasCells _ rb rcptZ 38 := ((HZ3.out.set 0 (.bool false)).set 1 (.int .u64 0)).set 2 (.slice none 0 0)
        refine bodyPost_ret (results_cells2 rfl _ _ rb rcptZ _ (by rfl) hf.range Tryd.underlying38 rfl infoRcpt) rfl ?_
        obtain ⟨r1, r2⟩ := HBAD.out (List.all_eq_false.2 ⟨y, List.mem_of_getElem? HY.out, by rw [HOK.out]; simp⟩)
        refine ⟨false, 0, [], .slice none 0 0, (by rw [r2]; rfl), r1, Logs.nil _, ⟨_, _, _, rfl⟩, ?_⟩
        exact ((HB3.out.setCell (p := ⟨rb, 0, none⟩) hrb _).setCell (p := ⟨rb, 1, none⟩) hrb _).setCell (p := ⟨rb, 2, none⟩) hrb _
      | true =>
        obtain ⟨tops, hlog, hst⟩ := HTP.out rfl
        obtain ⟨pv, cv, rfl⟩ := HO3.out.form
        obtain ⟨m, hm⟩ : ∃ m, L.length = m := ⟨_, rfl⟩
        rw [hm] at HC3 HO3
        have HM := Lib.hid hm
        clear hm
        have c2 := HC3.out.cell (j := 2) rfl
        have n0 := HN3.out.cell (j := 0) rfl
        have n1 := HN3.out.cell (j := 1) rfl
        have n2 := HN3.out.cell (j := 2) rfl
        have hvl : ∀ q, (Value.slice pv m cv).ownBlock = some q → q < wr.heap.size := fun q e => (HO.out.1.lt q (by rw [HM.out]; exact e)).2
        have hvb : ∀ q, (Value.slice pv m cv).ownBlock = some q → W.heap.size ≤ q := fun q e => (HO.out.1.lt q (by rw [HM.out]; exact e)).1
        have HVL := Lib.hid hvl
        have HVB := Lib.hid hvb
        have HQL := Lib.hid (show Hid (rb < W.heap.size ∧ lb < W.heap.size) from HLT)
        have hlm : m ≤ 65536 := by
          have h := congrArg List.length HLM.out
          rw [List.length_map, HM.out, List.length_map, List.length_take] at h
          omega
        have hw3 : wr.heap.size ≤ w3.heap.size := HBS3.out.size
        have hrs : wr.heap.size ≤ w2.heap.size := HBS.out.size
        have hww : W.heap.size ≤ wr.heap.size := HWS.out
        have HRX := Lib.hid (fun W' (hb : Below w2.heap.size w2 W') => (hst.kept hb.size (fun q _ hq => hb.block q hq) (fun q hq _ => ⟨Nat.le_trans hww hq, fun e => by have := hvl q e; omega⟩) : StrsIn W' (fun q => W.heap.size ≤ q ∧ (Value.slice pv m cv).ownBlock ≠ some q) (.slice pt nt ct) tops))
        have HN33 := Lib.hid (show Below w2.heap.size w2 w3 from by rw [← HW3.out]; exact laid1 w2 _)
        have HLOG := Lib.hid hlog
        clear hvl hvb hst hlog
        go_wp2_with (first | rw [HW3.out] | (at_builtin; refine wpList_appendL rfl _ _ rfl W.heap.size _ L rfl (HO3.out.after (laid1 _ _)).1 ⟨w3.heap.size, 0, none⟩ 1 (⟨a, tops, d⟩, .slice pt nt ct) ⟨_, _, _, rfl⟩ rfl ?c0 ?c1 ?c2 ?_))
        case c0 => exact fun j u hu => by rw [addr_add']; exact cells_at w3 (logCells [(⟨a, tops, d⟩, .slice pt nt ct)]) _ j u hu
        case c1 => rw [HM.out]; omega
        case c2 => simp; omega
        intro v4 w4 ho4 hg4 hv4
        obtain ⟨w3a, hw3a⟩ : ∃ X, w3.alloc (.cells #[.string a, .slice pt nt ct, .string d] 64) = X := ⟨_, rfl⟩
        have hba : Below w3.heap.size w3 w3a := by rw [← hw3a]; exact laid1 w3 _
        have hsz : w3a.heap.size = w3.heap.size + 1 := by rw [← hw3a]; simp
        rw [hw3a] at hg4
        rw [← hsz] at hv4
        clear hsz
        have hr4 : RowL W.heap.size w4 v4 (L ++ [(⟨a, tops, d⟩, .slice pt nt ct)]) := (HO3.out.after hba).snoc (HRX.out _ (HN33.out.trans (hba.mono HN33.out.size))) ho4 hg4 hv4
        have hlt2 := HLT.out
        have hs3a := hba.size
        have hb4 : Below w.heap.size w w4 := (HB3.out.trans (hba.mono HB3.out.size)).grown hg4 (by have := HB3.out.size; omega) (fun q e => by have := HVB.out q e; omega)
        have hz4 : HasCells w4 rb rcptZ 38 := (HZ3.out.after hba).kept (hg4.block rb (by omega) (fun e => by have := HVB.out rb e.symm; omega))
        have hc4 : HasCells w4 lb [.bool g, .int .u64 gas, .slice pv m cv] 38 := (HC3.out.after hba).kept (hg4.block lb (by omega) (fun e => by have := HVB.out lb e.symm; omega))
        have hk4 : ∀ q, q < W.heap.size → q ≠ lb → w4.heap[q]? = W.heap[q]? := fun q h1 h2 => by
          rw [hg4.block q (by omega) (fun e => by have := HVB.out q e.symm; omega), hba.block q (by omega), HBS3.out.block q (by omega)]
          exact HKP.out q h1 h2
        have hs4 : W.heap.size ≤ w4.heap.size := by have := hg4.size; omega
        obtain ⟨p4, k4, rfl⟩ := hr4.form
        obtain ⟨m4, hm4⟩ : ∃ m4, (L ++ [((⟨a, tops, d⟩ : LogD), Value.slice pt nt ct)]).length = m4 := ⟨_, rfl⟩
        rw [hm4] at hr4 ⊢
        have HM4 := Lib.hid hm4
        have c4 := hc4.cell (j := 2) rfl
        have f4 := hc4.frozen 2
        clear hm4
        clear ho4
        have HR4 := Lib.hid hr4
        have HB4 := Lib.hid hb4
        have HZ4 := Lib.hid hz4
        have HC4 := Lib.hid hc4
        have HK4 := Lib.hid hk4
        have HS4 := Lib.hid hs4
        clear hg4 hv4 hr4 hb4 hz4 hc4 hk4 hs4 hw3a hba hs3a
        go_wp2_with fail
        have hlt3 := HLT.out
        refine ⟨⟨rfl, k + 1, .slice p4 m4 k4, L ++ [((⟨a, tops, d⟩ : LogD), Value.slice pt nt ct)], by omega, rfl, HZ4.out.setOther hne _, HC4.out.set 2 _, (HR4.out.kept (W' := w4.setCell ⟨lb, 2, none⟩ (.slice p4 m4 k4)) (by simp) (fun q h1 _ => Below.heap_setCell w4 ⟨lb, 2, none⟩ (.slice p4 m4 k4) q (by show q ≠ lb; omega)) : RowL W.heap.size (w4.setCell ⟨lb, 2, none⟩ (.slice p4 m4 k4)) (.slice p4 m4 k4) (L ++ [((⟨a, tops, d⟩ : LogD), Value.slice pt nt ct)])), ?_, ?_, HB4.out.setCell (p := ⟨lb, 2, none⟩) hlb _, (fun q h1 h2 => (Below.heap_setCell _ _ _ _ h2).trans (HK4.out q h1 h2)), (show W.heap.size ≤ (w4.setCell ⟨lb, 2, none⟩ (.slice p4 m4 k4)).heap.size from by simpa using HS4.out)⟩, ?_⟩
        · show (L ++ [((⟨a, tops, d⟩ : LogD), Value.slice pt nt ct)]).map Prod.fst = (ys.take (k + 1)).map logI
          rw [List.map_append, HLM.out, List.take_add_one, HY.out, List.map_append]
          simp [HLOG.out]
        · intro j z hj hz
          rcases Nat.lt_or_ge j k with h | h
          · exact HAL.out j z h hz
          · obtain rfl : j = k := by omega
            rw [HY.out] at hz
            cases hz
            exact HOK.out
        · show N - ((k : Int) + 1).toNat < N - ((k : Int)).toNat
          omega
    · have g2 : decide ((k : Int) < N) = false := by simp; omega
      obtain ⟨pv, cv, rfl⟩ := HO.out.form
      obtain ⟨m, hm⟩ : ∃ m, L.length = m := ⟨_, rfl⟩
      rw [hm] at HC HO
      have c0 := HC.out.cell (j := 0) rfl
      have c1 := HC.out.cell (j := 1) rfl
      have c2 := HC.out.cell (j := 2) rfl
      have e0 := HZ.out.cell (j := 0) rfl
      have e1 := HZ.out.cell (j := 1) rfl
      have e2 := HZ.out.cell (j := 2) rfl
      have f0 := HZ.out.frozen 0
      have f1 := HZ.out.frozen 1
      have f2 := HZ.out.frozen 2
      have HM := Lib.hid hm
      clear hm
      go_wp2_with fail
      have hf : HasCells _ rb [.bool g, .int .u64 gas, .slice pv m cv] 38 := ((HZ.out.set 0 (.bool g)).set 1 (.int .u64 gas)).set 2 (.slice pv m cv)
      refine bodyPost_ret (results_cells2 rfl _ _ rb [.bool g, .int .u64 gas, .slice pv m cv] _ (by rfl) hf.range Tryd.underlying38 rfl infoRcpt) rfl ?_
      have hkn : k = N := by omega
      have hall : ys.all logB = true := List.all_eq_true.2 (fun y hy => by
        obtain ⟨j, hj⟩ := List.getElem?_of_mem hy
        exact HAL.out j y (by have h1 := (List.getElem?_eq_some_iff.1 hj).1; have h2 := HN.out; omega) hj)
      obtain ⟨r1, r2⟩ := HGOOD.out hall
      have hro : RowL W.heap.size _ (.slice pv m cv) L := HO.out.kept (W' := ((wr.setCell ⟨rb, 0, none⟩ (.bool g)).setCell ⟨rb, 1, none⟩ (.int .u64 gas)).setCell ⟨rb, 2, none⟩ (.slice pv m cv)) (by simp) (fun q h1 h2 => by
        have h3 := HLT.out.1
        rw [Below.heap_setCell _ _ _ _ (by show q ≠ rb; omega), Below.heap_setCell _ _ _ _ (by show q ≠ rb; omega), Below.heap_setCell _ _ _ _ (by show q ≠ rb; omega)])
      have hlg := hro.logs
      rw [HLM.out, List.take_of_length_le (by rw [HN.out]; omega)] at hlg
      refine ⟨g, gas, ys.map logI, .slice pv m cv, (by rw [r2]; rfl), r1, hlg, ⟨_, _, _, rfl⟩, ?_⟩
      exact ((HBR.out.setCell (p := ⟨rb, 0, none⟩) hrb _).setCell (p := ⟨rb, 1, none⟩) hrb _).setCell (p := ⟨rb, 2, none⟩) hrb _
end Go.Proofs.YtmjblnhnadffmaaDoor
/- Contract of the reference's ReceiptFrom. -/
namespace Go.Proofs.YtmjblnhnadffmaaDoor
open Go.RowKit Go.Shelf Go.Lib
attribute [local go_sem] Oper.semAt_some

theorem ReadsIn.other {w : World} {A : Nat → Prop} {v : Value} {xs : List Item} (h : ReadsIn w A v xs) {q : Nat} {cs : List Value} {t : TypeId} (hq : HasCells w q cs t)
    (hno : ∀ (o : Nat) b s, cs[o]? = some (.bool b) → cs[o + 1]? = some (.string s) → False) : ReadsIn w (fun g => A g ∧ g ≠ q) v xs := by
  obtain ⟨k, h⟩ := h
  refine ⟨k, ?_⟩
  induction k generalizing v xs with
  | zero => exact h.elim
  | succ k ih =>
    obtain ⟨p, cap, hv, hl, h⟩ := h
    refine ⟨p, cap, hv, hl, ?_⟩
    rcases h with h | ⟨g, o, hp, hg, h⟩
    · exact .inl h
    · cases xs with
      | nil => exact .inl rfl
      | cons y r =>
        refine .inr ⟨g, o, hp, ⟨hg, fun e => ?_⟩, fun i x hx => ?_⟩
        · subst e
          obtain ⟨h1, h2, _⟩ := h 0 y rfl
          have hb : w.heap[g]? = _ := hq
          rw [World.cell?, hb] at h1 h2
          simp only [List.getElem?_toArray] at h1 h2
          rw [show o + 0 * 3 = o by omega] at h1
          rw [show o + 0 * 3 + 1 = o + 1 by omega] at h2
          exact hno _ _ _ h1 h2
        · obtain ⟨h1, h2, v', h3, h4⟩ := h i x hx
          exact ⟨h1, h2, v', h3, ih h4⟩
theorem stop_here {P : Prop} (h : Hid P) : P := h.out
theorem alloc_gate {P : Program} {ops : Array Oper} {Q : Exit → Act → World → Prop} {rest : List Oper} {a : Act} {w : World} {d : Option Tmp} {ty : TypeId} {pos : String} {af : Array Edge} {g : Option (Nat × Bool)} (T : TypeId)
    (h : wpList P ops Q (Oper.mk d (Op.alloc T) ty pos af g :: rest) a w) : wpList P ops Q (Oper.mk d (Op.alloc T) ty pos af g :: rest) a w := h
theorem rcptZ_no (o : Nat) (b : Bool) (s : ByteArray) (h1 : rcptZ[o]? = some (.bool b)) (h2 : rcptZ[o + 1]? = some (.string s)) : False := by
  unfold rcptZ at h1 h2
  match o with
  | 0 => simp at h2
  | 1 => simp at h1
  | 2 => simp at h1
  | n + 3 => simp at h1
theorem rc_good_text {t : List UInt8} {n : Nat} {e : Int} (h : value t = (n, e)) : (decide (e = 0) && decide (n ≤ 1)) = (t == [] || t == [1]) := by
  have hg := good_iff t
  rw [h] at hg
  by_cases ha : t = [] ∨ t = [1]
  · obtain ⟨h1, h2⟩ := hg.2 ha
    rw [decide_eq_true h1, decide_eq_true h2]
    rcases ha with ha | ha <;> simp [ha]
  · have hb := fun q => ha (hg.1 q)
    have hc : (t == [] || t == [1]) = false := by
      simp only [not_or] at ha
      simp [ha.1, ha.2]
    rw [hc]
    by_cases h1 : e = 0
    · have h2 : ¬ n ≤ 1 := fun h2 => hb ⟨h1, h2⟩
      rw [decide_eq_false h2, Bool.and_false]
    · rw [decide_eq_false h1]; rfl
set_option maxRecDepth 100000 in
set_option maxHeartbeats 12800000 in
theorem rcptFromRef_any (s : List UInt8) (w : World) (hs : s.length ≤ 1099511627776) : Calls Tryd.prog 17 #[.string ⟨s.toArray⟩] w fun e w' => RcptIs s e w w' := by
  obtain ⟨x, n, hx⟩ : ∃ x n, decode s = (x, n) := ⟨_, _, rfl⟩
  have HBAD := Lib.hid (fun h : rcptB x n = false => rcpt_bad hx h)
  have HGOOD := Lib.hid (fun h : rcptB x n = true => rcpt_good hx h)
  have H1 := Lib.hid (fun W => decodeRef_lit hx hs W)
  have hcase : (n = 40 ∨ n = 41 ∨ n = 42) ∨ n = 0 := by
    rcases decode_cases s with ⟨y, e⟩ | e | e | e <;> (have e2 := e.symm.trans hx; cases e2; simp)
  have HXL := Lib.hid (show x.list.length ≤ 1099511627775 ∧ ∀ y ∈ x.list, (put y).length ≤ 65536 ∧ wrong y = false ∧ y.text.length ≤ 65536 from ⟨by have := decode_list_len hx; omega, fun y hy => ⟨(decode_child hx hy).2.1, (decode_child hx hy).1, (decode_child hx hy).2.2⟩⟩)
  obtain ⟨m, hm⟩ : ∃ m, x.list.length = m := ⟨_, rfl⟩
  have HM := Lib.hid hm
  clear hx hm
  go_enter Tryd.func17, Tryd.ntmps17
  go_wp2_with fail
  refine (H1.out _).mono ?_
  rintro e w1 ⟨hb1, p, c, rfl, HR⟩
  have HC1 := Lib.hid ((HasCells.new w rcptZ 38).after hb1)
  have HB1 := Lib.hid ((laid1 w (.cells rcptZ.toArray 38)).trans (hb1.mono (by simp)))
  have HRR := Lib.hid (ReadsIn.other HR.out HC1.out rcptZ_no)
  rw [HM.out] at HRR ⊢
  obtain ⟨isl, hisl⟩ : ∃ l, x.isList = l := ⟨_, rfl⟩
  obtain ⟨t, htt⟩ : ∃ t, x.text = t := ⟨_, rfl⟩
  rw [hisl, htt]
  have HISL := Lib.hid hisl
  have hlo := laid1 w1 (.cells #[.bool isl, .string ⟨t.toArray⟩, .slice p m c] 51)
  have HC2 := Lib.hid (HC1.out.alloc (.cells #[.bool isl, .string ⟨t.toArray⟩, .slice p m c] 51))
  have HB2 := Lib.hid (HB1.out.trans (hlo.mono HB1.out.size))
  have d0 := HC2.out.cell (j := 0) rfl
  have d1 := HC2.out.cell (j := 1) rfl
  have d2 := HC2.out.cell (j := 2) rfl
  have f0 := HC2.out.frozen 0
  have f1 := HC2.out.frozen 1
  have f2 := HC2.out.frozen 2
  clear hb1 HR hisl htt H1
  rcases hcase with hcase | rfl
  · clear hlo
    rcases hcase with rfl | rfl | rfl
    · go_wp2_with fail
      have hf : HasCells _ w.heap.size rcptZ 38 := ((HC2.out.set 0 (.bool false)).set 1 (.int .u64 0)).set 2 (.slice none 0 0)
      refine bodyPost_ret (results_cells2 rfl _ _ w.heap.size rcptZ _ (by rfl) hf.range Tryd.underlying38 rfl infoRcpt) rfl ?_
      obtain ⟨e1, e2⟩ := HBAD.out (by unfold rcptB rcptShape; simp)
      exact ⟨false, 0, [], .slice none 0 0, by rw [e2]; rfl, e1, Logs.nil _, ⟨_, _, _, rfl⟩, three_below HB2.out _ _ _⟩
    · go_wp2_with fail
      have hf : HasCells _ w.heap.size rcptZ 38 := ((HC2.out.set 0 (.bool false)).set 1 (.int .u64 0)).set 2 (.slice none 0 0)
      refine bodyPost_ret (results_cells2 rfl _ _ w.heap.size rcptZ _ (by rfl) hf.range Tryd.underlying38 rfl infoRcpt) rfl ?_
      obtain ⟨e1, e2⟩ := HBAD.out (by unfold rcptB rcptShape; simp)
      exact ⟨false, 0, [], .slice none 0 0, by rw [e2]; rfl, e1, Logs.nil _, ⟨_, _, _, rfl⟩, three_below HB2.out _ _ _⟩
    · go_wp2_with fail
      have hf : HasCells _ w.heap.size rcptZ 38 := ((HC2.out.set 0 (.bool false)).set 1 (.int .u64 0)).set 2 (.slice none 0 0)
      refine bodyPost_ret (results_cells2 rfl _ _ w.heap.size rcptZ _ (by rfl) hf.range Tryd.underlying38 rfl infoRcpt) rfl ?_
      obtain ⟨e1, e2⟩ := HBAD.out (by unfold rcptB rcptShape; simp)
      exact ⟨false, 0, [], .slice none 0 0, by rw [e2]; rfl, e1, Logs.nil _, ⟨_, _, _, rfl⟩, three_below HB2.out _ _ _⟩
  · cases isl with
    | false =>
      clear hlo
      go_wp2_with fail
      have hf : HasCells _ w.heap.size rcptZ 38 := ((HC2.out.set 0 (.bool false)).set 1 (.int .u64 0)).set 2 (.slice none 0 0)
      refine bodyPost_ret (results_cells2 rfl _ _ w.heap.size rcptZ _ (by rfl) hf.range Tryd.underlying38 rfl infoRcpt) rfl ?_
      obtain ⟨e1, e2⟩ := HBAD.out (by unfold rcptB rcptShape; rw [HISL.out]; simp)
      exact ⟨false, 0, [], .slice none 0 0, by rw [e2]; rfl, e1, Logs.nil _, ⟨_, _, _, rfl⟩, three_below HB2.out _ _ _⟩
    | true =>
      by_cases h3m : m = 3
      · subst h3m
        obtain ⟨z0, z1, z2, hxl⟩ : ∃ a b c, x.list = [a, b, c] := ⟨_, _, _, getD3 Item.none HM.out⟩
        obtain ⟨-, gc, oc, rfl, hgc, hac⟩ := ReadsIn.at HRR.out (by decide)
        rw [hxl] at hac
        obtain ⟨x00, x01, _⟩ := hac 0 z0 rfl
        obtain ⟨x10, x11, _⟩ := hac 1 z1 rfl
        obtain ⟨x20, x21, vc, x22, hvc⟩ := hac 2 z2 rfl
        obtain ⟨qc, nc, rfl⟩ := hvc.form
        simp only [Nat.zero_mul, Nat.one_mul, Nat.add_zero, Nat.add_assoc, Nat.reduceMul, Nat.reduceAdd] at x00 x01 x10 x11 x20 x21 x22
        obtain ⟨mc, hmc⟩ : ∃ m, z2.list.length = m := ⟨_, rfl⟩
        rw [hmc] at x22 hvc
        have HE := Lib.hid (fun W' (hb : Below w1.heap.size w1 W') => (show (W'.cell? ⟨gc, oc, none⟩ = some (.bool z0.isList) ∧ W'.cell? ⟨gc, oc + 1, none⟩ = some (.string ⟨z0.text.toArray⟩)) ∧ (W'.cell? ⟨gc, oc + 3, none⟩ = some (.bool z1.isList) ∧ W'.cell? ⟨gc, oc + 4, none⟩ = some (.string ⟨z1.text.toArray⟩)) ∧ (W'.cell? ⟨gc, oc + 6, none⟩ = some (.bool z2.isList) ∧ W'.cell? ⟨gc, oc + 8, none⟩ = some (.slice qc mc nc)) from
          ⟨⟨(hb.cell (p := ⟨gc, oc, none⟩) hgc.1).trans x00, (hb.cell (p := ⟨gc, oc + 1, none⟩) hgc.1).trans x01⟩, ⟨(hb.cell (p := ⟨gc, oc + 3, none⟩) hgc.1).trans x10, (hb.cell (p := ⟨gc, oc + 4, none⟩) hgc.1).trans x11⟩, ⟨(hb.cell (p := ⟨gc, oc + 6, none⟩) hgc.1).trans x20, (hb.cell (p := ⟨gc, oc + 8, none⟩) hgc.1).trans x22⟩⟩))
        have HXX := Lib.hid hxl
        have HMC := Lib.hid hmc
        have HVC := Lib.hid hvc
        have HGC := Lib.hid hgc
        have HSHP := Lib.hid (show rcptShape x 0 = (!z0.isList && (!z1.isList && z2.isList)) from by unfold rcptShape; rw [HISL.out, hxl]; simp [List.getD])
        obtain ⟨⟨y00, y01⟩, ⟨y10, y11⟩, y20, y22⟩ := HE.out _ hlo
        clear x00 x01 x10 x11 x20 x21 x22 hvc hac hmc hgc hxl
        obtain ⟨l0, hl0⟩ : ∃ b, z0.isList = b := ⟨_, rfl⟩
        obtain ⟨l1, hl1⟩ : ∃ b, z1.isList = b := ⟨_, rfl⟩
        obtain ⟨l2, hl2⟩ : ∃ b, z2.isList = b := ⟨_, rfl⟩
        rw [hl0] at y00 HSHP
        rw [hl1] at y10 HSHP
        rw [hl2] at y20 HSHP
        cases l0 with
        | true =>
          clear hlo hl0 hl1 hl2 y01 y10 y11 y20 y22
          go_wp2_with fail
          have hf : HasCells _ w.heap.size rcptZ 38 := ((HC2.out.set 0 (.bool false)).set 1 (.int .u64 0)).set 2 (.slice none 0 0)
          refine bodyPost_ret (results_cells2 rfl _ _ w.heap.size rcptZ _ (by rfl) hf.range Tryd.underlying38 rfl infoRcpt) rfl ?_
          obtain ⟨e1, e2⟩ := HBAD.out (by unfold rcptB; rw [HSHP.out]; rfl)
          exact ⟨false, 0, [], .slice none 0 0, by rw [e2]; rfl, e1, Logs.nil _, ⟨_, _, _, rfl⟩, three_below HB2.out _ _ _⟩
        | false =>
          cases l1 with
          | true =>
            clear hlo hl0 hl1 hl2 y01 y11 y20 y22
            go_wp2_with fail
            have hf : HasCells _ w.heap.size rcptZ 38 := ((HC2.out.set 0 (.bool false)).set 1 (.int .u64 0)).set 2 (.slice none 0 0)
            refine bodyPost_ret (results_cells2 rfl _ _ w.heap.size rcptZ _ (by rfl) hf.range Tryd.underlying38 rfl infoRcpt) rfl ?_
            obtain ⟨e1, e2⟩ := HBAD.out (by unfold rcptB; rw [HSHP.out]; rfl)
            exact ⟨false, 0, [], .slice none 0 0, by rw [e2]; rfl, e1, Logs.nil _, ⟨_, _, _, rfl⟩, three_below HB2.out _ _ _⟩
          | false =>
            cases l2 with
            | false =>
              clear hlo hl0 hl1 hl2 y01 y11 y22
              go_wp2_with fail
              have hf : HasCells _ w.heap.size rcptZ 38 := ((HC2.out.set 0 (.bool false)).set 1 (.int .u64 0)).set 2 (.slice none 0 0)
              refine bodyPost_ret (results_cells2 rfl _ _ w.heap.size rcptZ _ (by rfl) hf.range Tryd.underlying38 rfl infoRcpt) rfl ?_
              obtain ⟨e1, e2⟩ := HBAD.out (by unfold rcptB; rw [HSHP.out]; rfl)
              exact ⟨false, 0, [], .slice none 0 0, by rw [e2]; rfl, e1, Logs.nil _, ⟨_, _, _, rfl⟩, three_below HB2.out _ _ _⟩
            | true =>
              obtain ⟨nv0, ev0, hve0⟩ : ∃ a b, value z0.text = (a, b) := ⟨_, _, rfl⟩
              obtain ⟨nv1, ev1, hve1⟩ : ∃ a b, value z1.text = (a, b) := ⟨_, _, rfl⟩
              obtain ⟨t0, ht0⟩ : ∃ t, z0.text = t := ⟨_, rfl⟩
              obtain ⟨t1, ht1⟩ : ∃ t, z1.text = t := ⟨_, rfl⟩
              have HV1 := Lib.hid (fun W => valueRefA_lit ⟨t1.toArray⟩ (v := .tuple #[.int .u64 nv1, .int .i64 ev1]) (by rw [← ht1]; show valueV z1.text = _; unfold valueV; rw [hve1]) W)
              have HGT := Lib.hid (ht0 ▸ rc_good_text hve0)
              have HZ2 := Lib.hid (show (rI x 2).list = z2.list from by unfold rI; rw [HXX.out]; rfl)
              have HNUM := Lib.hid (show rcptNums x = ((t0 == [] || t0 == [1]) && (decide (ev1 = 0) && decide (mc ≤ 20))) from by
                rw [← HGT.out]
                unfold rcptNums rI
                rw [HXX.out]
                simp only [List.getD_cons_zero, List.getD_cons_succ]
                rw [hve0, hve1, HMC.out])
              have HGV := Lib.hid (fun (hg : (t0 == [] || t0 == [1]) = true) => (show (rcptGood x, rcptGas x, rcptLogs x) = (decide (t0 = [1]), nv1, z2.list.map logI) from by
                unfold rcptGood rcptGas rcptLogs rI
                rw [HXX.out]
                simp only [List.getD_cons_zero, List.getD_cons_succ]
                rw [ht0, hve1]
                simp only [Bool.or_eq_true, beq_iff_eq] at hg
                rcases hg with rfl | rfl
                · rw [value_nil]; rfl
                · rw [value_one]; rfl))
              have HCL := Lib.hid (show z2.list.length ≤ 65536 ∧ ∀ y ∈ z2.list, y.list.length ≤ 65536 ∧ ∀ q ∈ y.list, q.list.length ≤ 65536 from by
                obtain ⟨a1, a2, _⟩ := HXL.out.2 z2 (by rw [HXX.out]; simp)
                refine ⟨Nat.le_trans (len_put a2) a1, fun y hy => ?_⟩
                obtain ⟨b1, b2⟩ := child_put a2 hy
                refine ⟨by have := len_put b1; omega, fun q hq => ?_⟩
                obtain ⟨c1, c2⟩ := child_put b1 hq
                have := len_put c1
                omega)
              rw [ht0] at y01
              rw [ht1] at y11
              have y11 : World.cell? _ ⟨gc, oc + 3 + 1, none⟩ = _ := y11
              have y22 : World.cell? _ ⟨gc, oc + 6 + 2, none⟩ = _ := y22
              have HLO := Lib.hid hlo
              clear hve0 hve1 hl0 hl1 hl2 ht0 ht1 hlo
              by_cases ht : t0 = []
              · subst ht
                go_wp2_with fail
                refine (HV1.out _).mono ?_
                rintro e w2 ⟨rfl, rfl⟩
                by_cases he1 : ev1 = 0
                · subst he1
                  by_cases hmc : mc ≤ 20
                  · have g7 : ¬ ((20 : Int) < mc) := by omega
                    have g7d : decide ((20 : Int) < mc) = false := decide_eq_false g7
                    go_wp2_with ((with_reducible refine alloc_gate 38 ?_); refine stop_here ?_)
                    rename_i K hK
                    have HK2 := Lib.hid (fun (a : Act) (W : World) (h : rfRest.wp Tryd.prog (bodyPost Tryd.prog Tryd.f17 (fun e w' => RcptIs s e w w')) a W) => hK a W h)
                    clear hK
                    refine Lib.hid ?_
                    go_wp2_with fail
                    have hb9 := (laid1 w1 (.cells #[.bool true, .string ⟨t.toArray⟩, .slice (some ⟨gc, oc, none⟩) 3 c] 51)).trans ((laid1 _ (.cells #[.bool false, .int .u64 nv1, .slice none 0 0] 38)).mono (by simp))
                    have hc9 : HasCells ((w1.alloc (.cells #[.bool true, .string ⟨t.toArray⟩, .slice (some ⟨gc, oc, none⟩) 3 c] 51)).alloc (.cells #[.bool false, .int .u64 nv1, .slice none 0 0] 38)) (w1.heap.size + 1) [.bool false, .int .u64 nv1, .slice none 0 0] 38 := by
                      have h := HasCells.new (w1.alloc (.cells #[.bool true, .string ⟨t.toArray⟩, .slice (some ⟨gc, oc, none⟩) 3 c] 51)) [.bool false, .int .u64 nv1, .slice none 0 0] 38
                      rwa [World.size_alloc] at h
                    have hx9 := (HasCells.new w1 [.bool true, .string ⟨t.toArray⟩, .slice (some ⟨gc, oc, none⟩) 3 c] 51).alloc (.cells #[.bool false, .int .u64 nv1, .slice none 0 0] 38)
                    have hlt := HC1.out.lt
                    have hnb : rcptNums x = true := by rw [HNUM.out]; rw [decide_eq_true hmc]; rfl
                    refine HK2.out _ _ (rf_rest s w w.heap.size w1.heap.size (w1.heap.size + 1) gc oc c nc qc z2.list false nv1 mc _ _ _ _ _ _ _ _ _ _ _ _ _ _ _ _ _ _ _ _ _ _ _ _ _ _ _ _ _ _ _ _ _ _ _ _ _ _ _ _ _ _ _ _ _ _ _ _ _ _ _ _ _ _ _ _ _ _ _ _ _ _ _ _ _ _ _ _ _ _ _ _ _ _ _ _ _ _ _ _ _ _ _ _ _ _ _ _ _ _ _ _ _ _ _ _ _ _ _ _ _ _ _ _ _ _ _ _ _ _ _ _ _ _ _ _ _ _ _ _ _ (Lib.hid (HB1.out.trans (hb9.mono HB1.out.size))) (Nat.le_refl _) (by omega) (by omega) (HC1.out.after hb9) (hx9.cell (j := 2) rfl) ⟨by omega, by omega⟩ ⟨HGC.out.2, by have := HGC.out.1; omega⟩ hc9 (HE.out _ hb9).2.2.2 HMC (Lib.hid (HVC.out.kept (fun q u o hq hc => (hb9.cell (p := ⟨q, o, none⟩) hq.1).trans hc) (fun q hq => ⟨Nat.lt_of_lt_of_le hq.1 hb9.size, hq.2, by have := hq.1; omega⟩))) (by have := HCL.out.1; have := HMC.out; omega) (Lib.hid HCL.out.2) (Lib.hid (fun ha => ?_)) (Lib.hid (fun hb => ?_)))
                    · obtain ⟨q1, q2⟩ := HGOOD.out (by unfold rcptB; rw [HSHP.out, hnb, HZ2.out, ha]; rfl)
                      rw [HGV.out (by rfl)] at q1
                      exact ⟨q1, q2⟩
                    · exact HBAD.out (by unfold rcptB; rw [HSHP.out, hnb, HZ2.out, hb]; rfl)
                  · have g7 : (20 : Int) < mc := by omega
                    go_wp2_with fail
                    have hf : HasCells _ w.heap.size rcptZ 38 := ((HC2.out.set 0 (.bool false)).set 1 (.int .u64 0)).set 2 (.slice none 0 0)
                    refine bodyPost_ret (results_cells2 rfl _ _ w.heap.size rcptZ _ (by rfl) hf.range Tryd.underlying38 rfl infoRcpt) rfl ?_
                    obtain ⟨e1, e2⟩ := HBAD.out (by unfold rcptB; rw [HNUM.out, decide_eq_false hmc]; simp)
                    exact ⟨false, 0, [], .slice none 0 0, by rw [e2]; rfl, e1, Logs.nil _, ⟨_, _, _, rfl⟩, three_below HB2.out _ _ _⟩
                · have g8 : (ev1 == 0) = false := by simp; exact he1
                  go_wp2_with fail
                  have hf : HasCells _ w.heap.size rcptZ 38 := ((HC2.out.set 0 (.bool false)).set 1 (.int .u64 0)).set 2 (.slice none 0 0)
                  refine bodyPost_ret (results_cells2 rfl _ _ w.heap.size rcptZ _ (by rfl) hf.range Tryd.underlying38 rfl infoRcpt) rfl ?_
                  obtain ⟨e1, e2⟩ := HBAD.out (by unfold rcptB; rw [HNUM.out, decide_eq_false he1]; simp)
                  exact ⟨false, 0, [], .slice none 0 0, by rw [e2]; rfl, e1, Logs.nil _, ⟨_, _, _, rfl⟩, three_below HB2.out _ _ _⟩
              · by_cases ht1 : t0 = [1]
                · subst ht1
                  go_wp2_with fail
                  refine (HV1.out _).mono ?_
                  rintro e w2 ⟨rfl, rfl⟩
                  by_cases he1 : ev1 = 0
                  · subst he1
                    by_cases hmc : mc ≤ 20
                    · have g7 : ¬ ((20 : Int) < mc) := by omega
                      have g7d : decide ((20 : Int) < mc) = false := decide_eq_false g7
                      go_wp2_with ((with_reducible refine alloc_gate 38 ?_); refine stop_here ?_)
                      rename_i K hK
                      have HK2 := Lib.hid (fun (a : Act) (W : World) (h : rfRest.wp Tryd.prog (bodyPost Tryd.prog Tryd.f17 (fun e w' => RcptIs s e w w')) a W) => hK a W h)
                      clear hK
                      refine Lib.hid ?_
                      go_wp2_with fail
                      have hb9 := (laid1 w1 (.cells #[.bool true, .string ⟨t.toArray⟩, .slice (some ⟨gc, oc, none⟩) 3 c] 51)).trans ((laid1 _ (.cells #[.bool true, .int .u64 nv1, .slice none 0 0] 38)).mono (by simp))
                      have hc9 : HasCells ((w1.alloc (.cells #[.bool true, .string ⟨t.toArray⟩, .slice (some ⟨gc, oc, none⟩) 3 c] 51)).alloc (.cells #[.bool true, .int .u64 nv1, .slice none 0 0] 38)) (w1.heap.size + 1) [.bool true, .int .u64 nv1, .slice none 0 0] 38 := by
                        have h := HasCells.new (w1.alloc (.cells #[.bool true, .string ⟨t.toArray⟩, .slice (some ⟨gc, oc, none⟩) 3 c] 51)) [.bool true, .int .u64 nv1, .slice none 0 0] 38
                        rwa [World.size_alloc] at h
                      have hx9 := (HasCells.new w1 [.bool true, .string ⟨t.toArray⟩, .slice (some ⟨gc, oc, none⟩) 3 c] 51).alloc (.cells #[.bool true, .int .u64 nv1, .slice none 0 0] 38)
                      have hlt := HC1.out.lt
                      have hnb : rcptNums x = true := by rw [HNUM.out]; rw [decide_eq_true hmc]; rfl
                      refine HK2.out _ _ (rf_rest s w w.heap.size w1.heap.size (w1.heap.size + 1) gc oc c nc qc z2.list true nv1 mc _ _ _ _ _ _ _ _ _ _ _ _ _ _ _ _ _ _ _ _ _ _ _ _ _ _ _ _ _ _ _ _ _ _ _ _ _ _ _ _ _ _ _ _ _ _ _ _ _ _ _ _ _ _ _ _ _ _ _ _ _ _ _ _ _ _ _ _ _ _ _ _ _ _ _ _ _ _ _ _ _ _ _ _ _ _ _ _ _ _ _ _ _ _ _ _ _ _ _ _ _ _ _ _ _ _ _ _ _ _ _ _ _ _ _ _ _ _ _ _ _ (Lib.hid (HB1.out.trans (hb9.mono HB1.out.size))) (Nat.le_refl _) (by omega) (by omega) (HC1.out.after hb9) (hx9.cell (j := 2) rfl) ⟨by omega, by omega⟩ ⟨HGC.out.2, by have := HGC.out.1; omega⟩ hc9 (HE.out _ hb9).2.2.2 HMC (Lib.hid (HVC.out.kept (fun q u o hq hc => (hb9.cell (p := ⟨q, o, none⟩) hq.1).trans hc) (fun q hq => ⟨Nat.lt_of_lt_of_le hq.1 hb9.size, hq.2, by have := hq.1; omega⟩))) (by have := HCL.out.1; have := HMC.out; omega) (Lib.hid HCL.out.2) (Lib.hid (fun ha => ?_)) (Lib.hid (fun hb => ?_)))
                      · obtain ⟨q1, q2⟩ := HGOOD.out (by unfold rcptB; rw [HSHP.out, hnb, HZ2.out, ha]; rfl)
                        rw [HGV.out (by rfl)] at q1
                        exact ⟨q1, q2⟩
                      · exact HBAD.out (by unfold rcptB; rw [HSHP.out, hnb, HZ2.out, hb]; rfl)
                    · have g7 : (20 : Int) < mc := by omega
                      go_wp2_with fail
                      have hf : HasCells _ w.heap.size rcptZ 38 := ((HC2.out.set 0 (.bool false)).set 1 (.int .u64 0)).set 2 (.slice none 0 0)
                      refine bodyPost_ret (results_cells2 rfl _ _ w.heap.size rcptZ _ (by rfl) hf.range Tryd.underlying38 rfl infoRcpt) rfl ?_
                      obtain ⟨e1, e2⟩ := HBAD.out (by unfold rcptB; rw [HNUM.out, decide_eq_false hmc]; simp)
                      exact ⟨false, 0, [], .slice none 0 0, by rw [e2]; rfl, e1, Logs.nil _, ⟨_, _, _, rfl⟩, three_below HB2.out _ _ _⟩
                  · have g8 : (ev1 == 0) = false := by simp; exact he1
                    go_wp2_with fail
                    have hf : HasCells _ w.heap.size rcptZ 38 := ((HC2.out.set 0 (.bool false)).set 1 (.int .u64 0)).set 2 (.slice none 0 0)
                    refine bodyPost_ret (results_cells2 rfl _ _ w.heap.size rcptZ _ (by rfl) hf.range Tryd.underlying38 rfl infoRcpt) rfl ?_
                    obtain ⟨e1, e2⟩ := HBAD.out (by unfold rcptB; rw [HNUM.out, decide_eq_false he1]; simp)
                    exact ⟨false, 0, [], .slice none 0 0, by rw [e2]; rfl, e1, Logs.nil _, ⟨_, _, _, rfl⟩, three_below HB2.out _ _ _⟩
                · have n0 : (t0 == []) = false := beq_eq_false_iff_ne.2 ht
                  have n1 : (t0 == [1]) = false := beq_eq_false_iff_ne.2 ht1
                  have N01 := Lib.hid (And.intro n0 n1)
                  clear ht ht1
                  go_wp2_with fail
                  refine (HV1.out _).mono ?_
                  rintro e w2 ⟨rfl, rfl⟩
                  go_wp2_with fail
                  have hf : HasCells _ w.heap.size rcptZ 38 := ((HC2.out.set 0 (.bool false)).set 1 (.int .u64 0)).set 2 (.slice none 0 0)
                  refine bodyPost_ret (results_cells2 rfl _ _ w.heap.size rcptZ _ (by rfl) hf.range Tryd.underlying38 rfl infoRcpt) rfl ?_
                  obtain ⟨e1, e2⟩ := HBAD.out (by unfold rcptB; rw [HNUM.out, N01.out.1, N01.out.2]; simp)
                  exact ⟨false, 0, [], .slice none 0 0, by rw [e2]; rfl, e1, Logs.nil _, ⟨_, _, _, rfl⟩, three_below HB2.out _ _ _⟩
      · have g5 : ¬ ((m : Int) = 3) := by omega
        have l5 : ((m : Int) != 3) = true := by simp; omega
        have H3M := Lib.hid h3m
        clear h3m hlo
        go_wp2_with fail
        have hf : HasCells _ w.heap.size rcptZ 38 := ((HC2.out.set 0 (.bool false)).set 1 (.int .u64 0)).set 2 (.slice none 0 0)
        refine bodyPost_ret (results_cells2 rfl _ _ w.heap.size rcptZ _ (by rfl) hf.range Tryd.underlying38 rfl infoRcpt) rfl ?_
        obtain ⟨e1, e2⟩ := HBAD.out (by unfold rcptB rcptShape; rw [HM.out, decide_eq_false H3M.out]; simp)
        exact ⟨false, 0, [], .slice none 0 0, by rw [e2]; rfl, e1, Logs.nil _, ⟨_, _, _, rfl⟩, three_below HB2.out _ _ _⟩
end Go.Proofs.YtmjblnhnadffmaaDoor

/- The walk of the law AcctReceipts: it returns true, and nothing that was there is changed. -/
namespace Go.Proofs.YtmjblnhnadffmaaDoor
open Go.RowKit Go.Shelf Go.Lib
attribute [local go_sem] Oper.semAt_some

theorem getD_put {x : Item} (h : wrong x = false) (i : Nat) : wrong (x.list.getD i Item.none) = false ∧ (x.list.getD i Item.none).list.length ≤ (put x).length := by
  rw [List.getD_eq_getElem?_getD]
  cases hy : x.list[i]? with
  | none => exact ⟨rfl, by simp [Item.none, Item.list]⟩
  | some y =>
    obtain ⟨h1, h2⟩ := child_put h (List.mem_of_getElem? hy)
    exact ⟨h1, Nat.le_trans (len_put h1) h2⟩
theorem rcptOf_len (s : List UInt8) : (rcptOf s).2.2.length ≤ 65536 ∧ ∀ x ∈ (rcptOf s).2.2, x.tops.length ≤ 65536 := by
  obtain ⟨x, n, hx⟩ : ∃ x n, decode s = (x, n) := ⟨_, _, rfl⟩
  unfold rcptOf
  cases rcptOk s with
  | false => exact ⟨by simp, fun x h => by cases h⟩
  | true =>
    rw [hx]
    show (rcptLogs x).length ≤ 65536 ∧ ∀ l ∈ rcptLogs x, l.tops.length ≤ 65536
    unfold rcptLogs rI
    rw [List.getD_eq_getElem?_getD]
    cases hy : x.list[2]? with
    | none => exact ⟨by simp [Item.none, Item.list], fun l h => by simp [Item.none, Item.list] at h⟩
    | some y =>
      obtain ⟨h1, h2, _⟩ := decode_child hx (List.mem_of_getElem? hy)
      have h3 := len_put h1
      refine ⟨by simp; omega, fun l hl => ?_⟩
      obtain ⟨z, hz, rfl⟩ := List.mem_map.1 hl
      obtain ⟨h4, h5⟩ := child_put h1 hz
      have h6 := (getD_put h4 1).2
      show ((z.list.getD 1 Item.none).list.map bytesT).length ≤ 65536
      rw [List.length_map]
      omega
set_option maxRecDepth 100000 in
set_option maxHeartbeats 12800000 in
theorem law_receipts (good : Bool) (gas : Nat) (ls : List LogD) (v : Value) (s : ByteArray) (w : World) (hg : gas < 18446744073709551616) (hv : Logs w v ls) (hwt : weightL ls ≤ 1048576) (hs : s.size ≤ 1048576) :
    Calls Tryd.prog 5 #[.agg #[.bool good, .int .u64 gas, v], .string s] w fun e w' => e = .returned (.bool true) ∧ Below w.heap.size w w' := by
  obtain ⟨pv, cv, rfl⟩ := hv.form
  obtain ⟨rl, ge, hrg⟩ : ∃ x y, rcptBytes good gas ls = (x, y) := ⟨_, _, rfl⟩
  have HRB := Lib.hid (fun W (hb : Below w.heap.size w W) => rcptBytes_any good gas ls pv cv W (hv.below hb) hg hwt)
  have HRC := Lib.hid (fun W (hb : Below w.heap.size w W) => rcptBytesRef_any good gas ls pv cv W (hv.below hb) hg hwt)
  rw [hrg] at HRB HRC
  dsimp only at HRB HRC
  have HRF := Lib.hid (fun W => rcptFrom_any s.data.toList W (by show s.size ≤ _; omega))
  have HRG := Lib.hid (fun W => rcptFromRef_any s.data.toList W (by show s.size ≤ _; omega))
  obtain ⟨e6, he6⟩ : ∃ e, rcptErr s.data.toList = e := ⟨_, rfl⟩
  have HE6 := Lib.hid he6
  obtain ⟨⟨gd, gas2, ls2⟩, hof⟩ : ∃ r, rcptOf s.data.toList = r := ⟨_, rfl⟩
  have hln := rcptOf_len s.data.toList
  rw [hof] at hln
  dsimp only at hln
  have HLN := Lib.hid hln
  have HOF := Lib.hid hof
  obtain ⟨ln, hl⟩ : ∃ k, ls.length = k := ⟨_, rfl⟩
  rw [hl] at HRB HRC ⊢
  clear hrg he6 hof hln hl hv hwt hs
  have hq0 := HasCells.new w [.bool good, .int .u64 gas, .slice pv ln cv] 38
  have hb0 := laid1 w (.cells #[.bool good, .int .u64 gas, .slice pv ln cv] 38)
  obtain ⟨w0, hw0⟩ : ∃ W, w.alloc (.cells #[.bool good, .int .u64 gas, .slice pv ln cv] 38) = W := ⟨_, rfl⟩
  rw [show w.alloc (.cells ([.bool good, .int .u64 gas, .slice pv ln cv] : List Value).toArray 38) = w0 from hw0] at hq0
  rw [hw0] at hb0
  have HW0 := Lib.hid hw0
  have HB0 := Lib.hid hb0
  have HQ0 := Lib.hid hq0
  clear hw0 hb0 hq0
  go_enter Tryd.func5, Tryd.ntmps5
  go_wp2_with fail
  rw [HW0.out]
  refine (shown16_any _).mono ?_
  rintro e w1 ⟨rfl, hb1⟩
  have HB1 := Lib.hid (HB0.out.trans (hb1.mono HB0.out.size))
  have HQ1 := Lib.hid (HQ0.out.after hb1)
  have a0 := HQ1.out.cell (j := 0) rfl
  have a1 := HQ1.out.cell (j := 1) rfl
  have a2 := HQ1.out.cell (j := 2) rfl
  clear hb1
  go_wp2_with fail
  refine (HRB.out _ HB1.out).mono ?_
  rintro e w2 ⟨rfl, hb2⟩
  have HB2 := Lib.hid (HB1.out.trans (hb2.mono HB1.out.size))
  have HQ2 := Lib.hid (HQ1.out.after hb2)
  clear hb2 a0 a1 a2
  have a0 := HQ2.out.cell (j := 0) rfl
  have a1 := HQ2.out.cell (j := 1) rfl
  have a2 := HQ2.out.cell (j := 2) rfl
  go_wp2_with fail
  refine (HRC.out _ HB2.out).mono ?_
  rintro e w3 ⟨rfl, hb3⟩
  have HB3 := Lib.hid (HB2.out.trans (hb3.mono HB2.out.size))
  clear hb3 a0 a1 a2
  go_wp2_with fail
  refine (HRF.out _).mono ?_
  rintro e w4 ⟨gd', gas2', ls2', v4, rfl, h4, hlg4, ⟨p4, n4, c4, rfl⟩, hb4⟩
  rw [HOF.out] at h4
  cases h4
  rw [HE6.out]
  have HB4 := Lib.hid (HB3.out.trans (hb4.mono HB3.out.size))
  have hb5 := laid1 w4 (.cells #[.bool gd, .int .u64 gas2, .slice p4 n4 c4] 38)
  have hq5 := HasCells.new w4 [.bool gd, .int .u64 gas2, .slice p4 n4 c4] 38
  obtain ⟨w5, hw5⟩ : ∃ W, w4.alloc (.cells #[.bool gd, .int .u64 gas2, .slice p4 n4 c4] 38) = W := ⟨_, rfl⟩
  rw [show w4.alloc (.cells ([.bool gd, .int .u64 gas2, .slice p4 n4 c4] : List Value).toArray 38) = w5 from hw5] at hq5
  rw [hw5] at hb5
  have HW5 := Lib.hid hw5
  have HB5 := Lib.hid (HB4.out.trans (hb5.mono HB4.out.size))
  have HQ5 := Lib.hid hq5
  have HLG5 := Lib.hid (hlg4.below hb5)
  clear hb4 hlg4 hw5 hb5 hq5
  go_wp2_with (rw [HW5.out])
  refine (HRG.out _).mono ?_
  rintro e w6 ⟨gd', gas2', ls2', v6, rfl, h6, hlg6, ⟨p6, n6, c6, rfl⟩, hb6⟩
  rw [HOF.out] at h6
  cases h6
  rw [HE6.out]
  have HB6 := Lib.hid (HB5.out.trans (hb6.mono HB5.out.size))
  have hq6 := HQ5.out.after hb6
  have hb7 := laid1 w6 (.cells #[.bool gd, .int .u64 gas2, .slice p6 n6 c6] 38)
  have hq7 := HasCells.new w6 [.bool gd, .int .u64 gas2, .slice p6 n6 c6] 38
  obtain ⟨w7, hw7⟩ : ∃ W, w6.alloc (.cells #[.bool gd, .int .u64 gas2, .slice p6 n6 c6] 38) = W := ⟨_, rfl⟩
  rw [show w6.alloc (.cells ([.bool gd, .int .u64 gas2, .slice p6 n6 c6] : List Value).toArray 38) = w7 from hw7] at hq7
  rw [hw7] at hb7
  have HW7 := Lib.hid hw7
  have HB7 := Lib.hid (HB6.out.trans (hb7.mono HB6.out.size))
  have HQ57 := Lib.hid (hq6.after hb7)
  have HQ7 := Lib.hid hq7
  have HLG7 := Lib.hid (hlg6.below hb7)
  have HLG57 := Lib.hid ((HLG5.out.below hb6).below hb7)
  clear hb6 hlg6 hw7 hb7 hq7 hq6
  have a0 := HQ57.out.cell (j := 0) rfl
  have a1 := HQ57.out.cell (j := 1) rfl
  have a2 := HQ57.out.cell (j := 2) rfl
  have c0 := HQ7.out.cell (j := 0) rfl
  have c1 := HQ7.out.cell (j := 1) rfl
  have c2 := HQ7.out.cell (j := 2) rfl
  go_wp2_with (rw [HW7.out])
  refine (same_any gd gas2 ls2 _ _ _ HLG57.out HLG7.out (by have := HLN.out.1; omega) (fun x hx => by have := HLN.out.2 x hx; omega)).mono ?_
  rintro e w8 ⟨rfl, hb8⟩
  have HB8 := Lib.hid (HB7.out.trans (hb8.mono HB7.out.size))
  clear hb8
  go_wp2
  go_ret
  exact ⟨rfl, HB8.out⟩
end Go.Proofs.YtmjblnhnadffmaaDoor
