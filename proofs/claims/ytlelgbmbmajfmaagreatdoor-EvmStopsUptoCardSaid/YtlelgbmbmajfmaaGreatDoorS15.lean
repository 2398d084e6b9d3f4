/- What the walks take: EvmB. -/
import Derived.Test.YtlelgbmbmajfmaaGreatDoorS3
import Derived.Test.YtlelgbmbmajfmaaGreatDoorS14
namespace Go.Proofs.YtlelgbmbmajfmaaGreatDoor
open Go.RowKit Go.Shelf Go.Lib Go.Maps Go.ChangeMaps
attribute [local go_sem] Oper.semAt_some
theorem results_tmpF {fn : Func} {p q u v : Tmp} (h : fn.results = #[.tmp p, .tmp q, .tmp u, .tmp v]) (tmps : Array Value) (w : World) : (results fn tmps).run Tryz.prog w = .ok (.tuple #[tmps.getD p undef, tmps.getD q undef, tmps.getD u undef, tmps.getD v undef]) w := by
  simp [results, h]
theorem stashE {P : Program} {ops : Array Oper} {Q : Exit → Act → World → Prop} {rest : List Oper} {a : Act} {W : World} (h : ∀ u, u = W → wpList P ops Q rest a u) : wpList P ops Q rest a W := h W rfl
theorem setCells_other {q j : Nat} (hne : j ≠ q) : ∀ (vs : List Value) (o : Nat) (W : World), (W.setCells q o vs).heap[j]? = W.heap[j]?
  | [], _, _ => rfl
  | v :: vs, o, _ => (setCells_other hne vs (o + 1) _).trans (Below.heap_setCell _ ⟨q, o, none⟩ v j hne)
theorem below_sets {B q : Nat} (hq : B ≤ q) {w : World} : ∀ (vs : List Value) (o : Nat) (W : World), Below B w W → Below B w (W.setCells q o vs)
  | [], _, _, h => h
  | v :: vs, o, _, h => below_sets hq vs (o + 1) _ (h.setCell (p := ⟨q, o, none⟩) hq v)
def infoV (op : UInt8) : Value := .tuple #[.int .i64 (infoE op).1, .int .i64 (infoE op).2.1, .int .u64 (infoE op).2.2.1, .bool (infoE op).2.2.2]
theorem oneC3 {a b c : Value} (ha : a.oneCell' = true) (hb : b.oneCell' = true) (hc : c.oneCell' = true) : (#[a, b, c] : Array Value).all (·.oneCell') = true := by simp [ha, hb, hc]
theorem infoInf : (Tryz.prog.info? 197).map (·.size) = some 3 := by kernel_rfl
theorem index_has (l : List UInt8) (c : UInt8) : (0 : Int) ≤ Lib.indexByte l c ↔ l.contains c = true := by
  induction l with
  | nil => simp [Lib.indexByte]
  | cons b r ih =>
    have h1 := Lib.indexByte_ge r c
    have h2 : Lib.indexByte (b :: r) c = if b == c then 0 else if Lib.indexByte r c == -1 then -1 else Lib.indexByte r c + 1 := rfl
    rw [h2]
    by_cases hbc : b = c
    · subst hbc
      simp
    · have h3 : (b == c) = false := by simpa using hbc
      have h4 : (c == b) = false := by simpa using fun e => hbc e.symm
      rw [h3, List.contains_cons, h4, Bool.false_or, ← ih, if_neg (by simp)]
      by_cases h5 : Lib.indexByte r c = -1
      · rw [h5]; simp
      · have h6 : (Lib.indexByte r c == -1) = false := by simpa using h5
        rw [h6, if_neg (by simp)]
        omega
theorem infoE_row {op : UInt8} (h : ¬ (0x60 ≤ op.toNat ∧ op.toNat < 0xa5)) : infoE op = match rowOfE op with | some r => (r.2.1, r.2.2.1, r.2.2.2, true) | none => (0, 0, 0, false) := by
  unfold infoE
  rw [if_neg (by omega), if_neg (by omega), if_neg (by omega), if_neg (by omega)]
  cases rowOfE op <;> rfl
noncomputable def infoR : Code := match Tryz.f95.body with
  | some (.seq _ (.seq _ (.seq _ r))) => r
  | _ => .ret
noncomputable def infoA (z : Code) : Code := match Tryz.f95.body with
  | some (.seq a (.seq b (.seq c _))) => .seq a (.seq b (.seq c z))
  | _ => .ret
set_option maxRecDepth 100000 in
set_option maxHeartbeats 6400000 in
theorem info_rest (op : UInt8) (w : World) {u1 u2 u3 u4 u5 u6 u7 u8 u9 u10 u11 u12 u13 u14 u15 u16 u17 u18 u19 u20 u21 u22 u23 u24 u25 u26 u27 u28 u29 u30 u31 u32 u33 u34 u35 u36 u37 u38 u39 u40 u41 u42 u43 u44 u45 u46 u47 u48 u49 u50 u51 u52 u53 u54 u55 u56 u57 u58 u59 u60 u61 u62 u63 u64 u65 u66 u67 u68 u69 u70 : Value} (h : ¬ (0x60 ≤ op.toNat ∧ op.toNat < 0xa5)) : infoR.wp Tryz.prog (bodyPost Tryz.prog Tryz.f95 (fun e w' => e = .returned (infoV op) ∧ Below w.heap.size w w')) ⟨#[.int .u8 op.toNat, u1, u2, u3, u4, u5, u6, u7, u8, u9, u10, u11, u12, u13, u14, u15, u16, u17, u18, u19, u20, u21, u22, u23, u24, u25, u26, u27, u28, u29, u30, u31, u32, u33, u34, u35, u36, u37, u38, u39, u40, u41, u42, u43, u44, u45, u46, u47, u48, u49, u50, u51, u52, u53, u54, u55, u56, u57, u58, u59, u60, u61, u62, u63, u64, u65, u66, u67, u68, u69, u70], []⟩ w := by
  show Code.wp _ _ _ _ _
  dsimp only [infoR, Tryz.f95]
  go_wp2_with fail
  refine (rows_any w).mono ?_
  rintro e w1 ⟨rfl, hm, hb⟩
  obtain ⟨bm, hbm⟩ : ∃ b, w.heap.size = b := ⟨_, rfl⟩
  rw [hbm] at hm ⊢
  have hrg := run_range_map (P := Tryz.prog) w1 194 9 197 bm rowsL.toArray 21 Tryz.underlying194 hm
  have hlt : bm < w1.heap.size := (Array.getElem?_eq_some_iff.1 hm).1
  have hB0 : Below w.heap.size w (w1.alloc (.mapIter (some bm) 21 #[] 21)) := hb.alloc hb.size _
  have hm0 : (w1.alloc (.mapIter (some bm) 21 #[] 21)).heap[bm]? = some (.map rowsL.toArray 21) := (heap_alloc_old w1 _ hlt).trans hm
  have hi0 : (w1.alloc (.mapIter (some bm) 21 #[] 21)).heap[w1.heap.size]? = some (.mapIter (some bm) 21 #[] 21) := heap_alloc_new w1 _
  obtain ⟨it, hit⟩ : ∃ i, w1.heap.size = i := ⟨_, rfl⟩
  rw [hit] at hi0 hrg
  have HIT := Lib.hid (show w.heap.size ≤ it from by rw [← hit]; exact hb.size)
  have HNE := Lib.hid (show bm ≠ it from by omega)
  have H0 := Lib.hid (And.intro hi0 (And.intro hm0 hB0))
  clear hm hb hit hlt hi0 hm0 hB0
  go_wp2_with fail
  go_loopw [] (fun wr => ∃ seen : Array Nat, Hid (wr.heap[it]? = some (.mapIter (some bm) 21 seen 21) ∧ wr.heap[bm]? = some (.map rowsL.toArray 21) ∧ Below w.heap.size w wr) ∧ Hid (∀ x ∈ rowsL, seen.contains x.born = true → ∀ r : List UInt8 × Nat × Nat × Nat, x.key = .string ⟨r.1.toArray⟩ → r.1.contains op = false)) (fun wr => (leftOf rowsL.toArray (wr.iterSeen it)).size)
  case atStart => exact ⟨#[], H0, Lib.hid (fun x _ h => by simp at h)⟩
  case round =>
    obtain ⟨seen, HW, HNO⟩ := hrel
    have hold : ∀ x ∈ rowsL.toArray.toList, x.born < 21 := fun x hx => rowsL_stamped.1 x (by simpa using hx)
    have hnd : (rowsL.toArray.toList.map (·.born)).Nodup := by simpa using rowsL_stamped.2
    clear hrg H0
    rcases run_next_at (P := Tryz.prog) wr 0 it bm 21 21 seen rowsL.toArray 21 HW.out.1 HW.out.2.1 hold (Nat.le_refl _) with ⟨h0, hrun⟩ | ⟨e, he, w2, hw2, hrun⟩
    · have hnx : ∀ ty, (Instr.next (.pointer (some ⟨it, 0, none⟩)) false ty).run Tryz.prog wr = _ := fun _ => hrun
      have hres : infoE op = (0, 0, 0, false) := by
        rw [infoE_row h, rowOfE_none (fun r hr => by
          obtain ⟨x, hx, hk⟩ := rowsL_has hr
          exact HNO.out x hx (all_seen _ seen h0 x (by simpa using hx)) r hk)]
      have HRES := Lib.hid hres
      clear hold hnd hrun h0 hres
      go_wp2_with fail
      refine bodyPost_ret (results_tmpF rfl _ _) rfl ?_
      unfold infoV
      rw [HRES.out]
      exact ⟨rfl, HW.out.2.2⟩
    · have hel : e ∈ rowsL := by simpa using (mem_left he).1
      obtain ⟨r, hr, hkey, hval⟩ := rowsL_mem hel
      rw [hkey, hval] at hrun
      obtain ⟨w3, hw3⟩ : ∃ W, setBlock w2 it (.mapIter (some bm) 21 (seen.push e.born) 21) = W := ⟨_, rfl⟩
      rw [hw3] at hrun
      have h2 : w2.heap = wr.heap ∧ Below w.heap.size w w2 := by
        rcases hw2 with rfl | rfl
        · exact ⟨rfl, HW.out.2.2⟩
        · exact ⟨rfl, HW.out.2.2.drew⟩
      have hlt : it < w2.heap.size := by rw [h2.1]; exact (Array.getElem?_eq_some_iff.1 HW.out.1).1
      have hi3 : w3.heap[it]? = some (.mapIter (some bm) 21 (seen.push e.born) 21) := by rw [← hw3]; show (w2.heap.setIfInBounds it _)[it]? = _; simp [hlt]
      have hm3 : w3.heap[bm]? = some (.map rowsL.toArray 21) := by rw [← hw3]; show (w2.heap.setIfInBounds it _)[bm]? = _; rw [Array.getElem?_setIfInBounds_ne (Ne.symm HNE.out), h2.1]; exact HW.out.2.1
      have hB3 : Below w.heap.size w w3 := by rw [← hw3]; exact below_put h2.2 HIT.out _
      have hen := run_entry_at (P := Tryz.prog) w3 it bm 21 seen rowsL.toArray 21 e hi3 hm3 (mem_left he).1 hnd
      rw [hkey, hval] at hen
      have hnx : ∀ ty, (Instr.next (.pointer (some ⟨it, 0, none⟩)) false ty).run Tryz.prog wr = _ := fun _ => hrun
      have H3 := Lib.hid (And.intro hi3 (And.intro hm3 hB3))
      have HE := Lib.hid he
      have HEL := Lib.hid hel
      have HR := Lib.hid (And.intro hr hkey)
      have HND := Lib.hid hnd
      have hza : HasCells (w3.alloc (.cells #[.int .i64 0, .int .i64 0, .int .u64 0] 197)) w3.heap.size [.int .i64 0, .int .i64 0, .int .u64 0] 197 := HasCells.new _ _ _
      have HTH := Lib.hid (show (w3.alloc (.cells #[.int .i64 0, .int .i64 0, .int .u64 0] 197)).there w3.heap.size 0 3 from hza.there 0 3 (by decide))
      clear hold hnd hrun hi3 hm3 hB3 h2 hlt hw2 hw3 hr hkey hval hel he hza
      obtain ⟨ks, tk, pt, gs⟩ := r
      dsimp only at hnx hen HR
      go_wp2_with (first | ((with_reducible refine store_gateK 197 ?_); refine wpList_store_mid rfl 197 _ _ rfl w3.heap.size 0 #[.int .i64 tk, .int .i64 pt, .int .u64 gs] rfl rfl HTH.out infoInf (oneC3 rfl rfl rfl) ?_; refine stashE (fun w4 hu => ?_); have hc4 : w4.rangeAt w3.heap.size 0 [.int .i64 tk, .int .i64 pt, .int .u64 gs] := (by rw [hu]; exact World.rangeAt_setCells_same _ _ _ _ HTH.out); have hB4 : Below w3.heap.size w3 w4 := (by rw [hu]; exact below_sets (Nat.le_refl _) _ _ _ ((Below.refl _ _).alloc (Nat.le_refl _) _)); clear hu))
      have hi4 : w4.heap[it]? = some (.mapIter (some bm) 21 (seen.push e.born) 21) := (hB4.block it (Array.getElem?_eq_some_iff.1 H3.out.1).1).trans H3.out.1
      have hm4 : w4.heap[bm]? = some (.map rowsL.toArray 21) := (hB4.block bm (Array.getElem?_eq_some_iff.1 H3.out.2.1).1).trans H3.out.2.1
      have hB5 : Below w.heap.size w w4 := H3.out.2.2.trans (hB4.mono H3.out.2.2.size)
      have H4 := Lib.hid (And.intro hi4 (And.intro hm4 hB5))
      have c0 : w4.cell? ⟨w3.heap.size, 0, none⟩ = some (.int .i64 tk) := hc4 0 _ rfl
      have c1 : w4.cell? ⟨w3.heap.size, 1, none⟩ = some (.int .i64 pt) := hc4 1 _ rfl
      have c2 : w4.cell? ⟨w3.heap.size, 2, none⟩ = some (.int .u64 gs) := hc4 2 _ rfl
      have HC := Lib.hid (show w4.drew.cell? ⟨w3.heap.size, 0, none⟩ = some (.int .i64 tk) ∧ w4.drew.cell? ⟨w3.heap.size, 1, none⟩ = some (.int .i64 pt) ∧ w4.drew.cell? ⟨w3.heap.size, 2, none⟩ = some (.int .u64 gs) from ⟨c0, c1, c2⟩)
      clear hi4 hm4 hB5 hB4 hc4 c0 c1 c2 HTH
      refine (Tryz.strings_IndexByte ⟨ks.toArray⟩ (op.toNat : Int) w4).mono ?_
      rintro e' w' ⟨rfl, rfl⟩
      rw [show Lib.indexByte (⟨ks.toArray⟩ : ByteArray).data.toList ((op.toNat : Int).toNat.toUInt8) = Lib.indexByte ks op from by
        show Lib.indexByte ks ((op.toNat : Int).toNat.toUInt8) = _
        rw [Int.toNat_natCast, show op.toNat.toUInt8 = op from UInt8.ofNat_toNat]]
      obtain ⟨ix, hix⟩ : ∃ i, Lib.indexByte ks op = i := ⟨_, rfl⟩
      have hih := index_has ks op
      rw [hix] at hih ⊢
      have HIH := Lib.hid hih
      clear hih hix
      by_cases hge : (0 : Int) ≤ ix
      · have HRES := Lib.hid (show infoE op = (tk, pt, gs, true) from by rw [infoE_row h, rowOfE_of HR.out.1 (HIH.out.1 hge)])
        clear HIH
        go_wp2_with fail
        refine wp_region_held_drew (S := (fun W => W.cell? ⟨w3.heap.size, 0, none⟩ = some (.int .i64 tk) ∧ W.cell? ⟨w3.heap.size, 1, none⟩ = some (.int .i64 pt) ∧ W.cell? ⟨w3.heap.size, 2, none⟩ = some (.int .u64 gs))) (by kernel_rfl) (HC.out) (fun hHeld => ?_)
        refine wpAnyH_take (i := 0) (v := ?_) rfl (by kernel_rfl) (by kernel_rfl) (by kernel_rfl) (fun _ _ _ h => h) (.inl ⟨by rfl, ?_⟩) (by assumption) ?_
        rotate_left 1
        · intro w0 hSw
          go_simp <;> with_reducible rfl
        try simp only [Act.put, List.getElem_toArray, List.getElem_cons_zero, List.setIfInBounds_toArray, List.set_cons_zero, List.set_cons_succ]
        refine wpAnyH_take (i := 1) (v := ?_) rfl (by kernel_rfl) (by kernel_rfl) (by kernel_rfl) (fun _ _ _ h => h) (.inl ⟨by rfl, ?_⟩) (by assumption) ?_
        rotate_left 1
        · intro w0 hSw
          obtain ⟨z0, z1, z2⟩ := hSw
          go_simp <;> with_reducible rfl
        try simp only [Act.put, List.getElem_toArray, List.getElem_cons_zero, List.getElem_cons_succ, List.setIfInBounds_toArray, List.set_cons_zero, List.set_cons_succ]
        refine wpAnyH_take (i := 2) (v := ?_) rfl (by kernel_rfl) (by kernel_rfl) (by kernel_rfl) (fun _ _ _ h => h) (.inl ⟨by rfl, ?_⟩) (by assumption) ?_
        rotate_left 1
        · intro w0 hSw
          go_simp <;> with_reducible rfl
        try simp only [Act.put, List.getElem_toArray, List.getElem_cons_zero, List.getElem_cons_succ, List.setIfInBounds_toArray, List.set_cons_zero, List.set_cons_succ]
        refine wpAnyH_take (i := 3) (v := ?_) rfl (by kernel_rfl) (by kernel_rfl) (by kernel_rfl) (fun _ _ _ h => h) (.inl ⟨by rfl, ?_⟩) (by assumption) ?_
        rotate_left 1
        · intro w0 hSw
          obtain ⟨z0, z1, z2⟩ := hSw
          go_simp <;> with_reducible rfl
        try simp only [Act.put, List.getElem_toArray, List.getElem_cons_zero, List.getElem_cons_succ, List.setIfInBounds_toArray, List.set_cons_zero, List.set_cons_succ]
        refine wpAnyH_take (i := 4) (v := ?_) rfl (by kernel_rfl) (by kernel_rfl) (by kernel_rfl) (fun _ _ _ h => h) (.inl ⟨by rfl, ?_⟩) (by assumption) ?_
        rotate_left 1
        · intro w0 hSw
          go_simp <;> with_reducible rfl
        try simp only [Act.put, List.getElem_toArray, List.getElem_cons_zero, List.getElem_cons_succ, List.setIfInBounds_toArray, List.set_cons_zero, List.set_cons_succ]
        refine wpAnyH_take (i := 5) (v := ?_) rfl (by kernel_rfl) (by kernel_rfl) (by kernel_rfl) (fun _ _ _ h => h) (.inl ⟨by rfl, ?_⟩) (by assumption) ?_
        rotate_left 1
        · intro w0 hSw
          obtain ⟨z0, z1, z2⟩ := hSw
          go_simp <;> with_reducible rfl
        try simp only [Act.put, List.getElem_toArray, List.getElem_cons_zero, List.getElem_cons_succ, List.setIfInBounds_toArray, List.set_cons_zero, List.set_cons_succ]
        refine wpAnyH_take (i := 6) (v := ?_) rfl (by kernel_rfl) (by kernel_rfl) (by kernel_rfl) (fun _ _ _ h => h) (.inl ⟨by rfl, ?_⟩) (by assumption) ?_
        rotate_left 1
        · intro w0 hSw
          go_simp <;> with_reducible rfl
        try simp only [Act.put, List.getElem_toArray, List.getElem_cons_zero, List.getElem_cons_succ, List.setIfInBounds_toArray, List.set_cons_zero, List.set_cons_succ]
        refine wpAnyH_take (i := 7) (v := ?_) rfl (by kernel_rfl) (by kernel_rfl) (by kernel_rfl) (fun _ _ _ h => h) (.inl ⟨by rfl, ?_⟩) (by assumption) ?_
        rotate_left 1
        · intro w0 hSw
          go_simp <;> with_reducible rfl
        try simp only [Act.put, List.getElem_toArray, List.getElem_cons_zero, List.getElem_cons_succ, List.setIfInBounds_toArray, List.set_cons_zero, List.set_cons_succ]
        refine wpAnyH_take (i := 8) (v := ?_) rfl (by kernel_rfl) (by kernel_rfl) (by kernel_rfl) (fun _ _ _ h => h) (.inl ⟨by rfl, ?_⟩) (by assumption) ?_
        rotate_left 1
        · intro w0 hSw
          go_simp <;> with_reducible rfl
        try simp only [Act.put, List.getElem_toArray, List.getElem_cons_zero, List.getElem_cons_succ, List.setIfInBounds_toArray, List.set_cons_zero, List.set_cons_succ]
        refine wpAnyH_take (i := 9) (v := ?_) rfl (by kernel_rfl) (by kernel_rfl) (by kernel_rfl) (fun _ _ _ h => h) (.inl ⟨by rfl, ?_⟩) (by assumption) ?_
        rotate_left 1
        · intro w0 hSw
          go_simp <;> with_reducible rfl
        try simp only [Act.put, List.getElem_toArray, List.getElem_cons_zero, List.getElem_cons_succ, List.setIfInBounds_toArray, List.set_cons_zero, List.set_cons_succ]
        refine wpAnyH_done (by kernel_rfl) ?_ 0
        go_wp2_with fail
        refine bodyPost_ret (results_tmpF rfl _ _) rfl ?_
        unfold infoV
        rw [HRES.out]
        exact ⟨rfl, H4.out.2.2.drew⟩
      · clear HC
        go_wp2_with fail
        go_roundw
        case rel =>
          refine ⟨seen.push e.born, H4, Lib.hid (fun x hx hc r2 hk2 => ?_)⟩
          rw [contains_push] at hc
          rcases Bool.or_eq_true _ _ ▸ hc with h1 | h1
          · exact HNO.out x hx h1 r2 hk2
          · have hxe : x = e := born_inj HND.out (by simpa using hx) (mem_left HE.out).1 (beq_iff_eq.1 h1)
            subst hxe
            have hkk := HR.out.2.symm.trans hk2
            simp only [Value.string.injEq, ByteArray.mk.injEq] at hkk
            have hk3 : ks = r2.1 := by have := congrArg Array.toList hkk; simpa using this
            rw [← hk3]
            cases hcc : ks.contains op with
            | false => rfl
            | true => exact absurd (HIH.out.2 hcc) (by omega)
        case measure =>
          have e1 : w'.iterSeen it = seen.push e.born := by unfold World.iterSeen; rw [H4.out.1]
          have e2 : wr.iterSeen it = seen := by unfold World.iterSeen; rw [HW.out.1]
          rw [e1, e2]
          exact left_shrinks _ seen e HE.out
set_option maxRecDepth 100000 in
set_option maxHeartbeats 6400000 in
theorem info_any (op : UInt8) (w : World) : Calls Tryz.prog 95 #[.int .u8 op.toNat] w fun e w' => e = .returned (infoV op) ∧ Below w.heap.size w w' := by
  obtain ⟨n, hn⟩ : ∃ n, op.toNat = n := ⟨_, rfl⟩
  have hlt : n < 256 := by rw [← hn]; exact op.toNat_lt
  have hmod : (n : Int).tmod 16 = ((n % 16 : Nat) : Int) := by rw [Int.tmod_eq_emod_of_nonneg (by omega)]; omega
  have hw1 : IntKind.i64.wrap ((n % 16 : Nat) : Int) = ((n % 16 : Nat) : Int) := by rw [IntKind.wrap_i64]; omega
  have hw2 : IntKind.u64.wrap (((n % 16 : Nat) : Int) + 1) = ((n % 16 : Nat) : Int) + 1 := by rw [IntKind.wrap_u64]; omega
  have HN := Lib.hid hn
  by_cases h : 0x60 ≤ op.toNat ∧ op.toNat < 0xa5
  · rw [hn]
    have hv : infoV op = if n < 0x80 then .tuple #[.int .i64 0, .int .i64 1, .int .u64 3, .bool true] else if n < 0x90 then .tuple #[.int .i64 ((n % 16 + 1 : Nat) : Int), .int .i64 ((n % 16 + 2 : Nat) : Int), .int .u64 3, .bool true]
        else if n < 0xa0 then .tuple #[.int .i64 ((n % 16 + 2 : Nat) : Int), .int .i64 ((n % 16 + 2 : Nat) : Int), .int .u64 3, .bool true] else .tuple #[.int .i64 ((n % 16 + 2 : Nat) : Int), .int .i64 0, .int .u64 ((375 * (n % 16 + 1) : Nat) : Int), .bool true] := by
      unfold infoV infoE
      rw [hn] at h ⊢
      by_cases h1 : n < 0x80
      · rw [if_pos ⟨h.1, h1⟩, if_pos h1]; rfl
      · rw [if_neg (by omega), if_neg h1]
        by_cases h2 : n < 0x90
        · rw [if_pos (by omega), if_pos h2]; rfl
        · rw [if_neg (by omega), if_neg h2]
          by_cases h3 : n < 0xa0
          · rw [if_pos (by omega), if_pos h3]; rfl
          · rw [if_neg (by omega), if_neg h3, if_pos (by omega)]; rfl
    have HV := Lib.hid hv
    rw [hn] at h
    obtain ⟨h96, h165⟩ := h
    obtain ⟨V, hV⟩ : ∃ V, infoV op = V := ⟨_, rfl⟩
    rw [hV] at HV ⊢
    clear hv hn hV
    have g1 : (96 : Int) ≤ n := by omega
    by_cases h1 : n < 0x80
    · have g2 : (n : Int) < 128 := by omega
      go_enter Tryz.func95, Tryz.ntmps95
      go_wp2_with fail
      refine bodyPost_ret (results_tmpF rfl _ _) rfl ?_
      rw [HV.out, if_pos h1]
      exact ⟨rfl, Below.refl _ _⟩
    have g2 : ¬ (n : Int) < 128 := by omega
    have g3 : (128 : Int) ≤ n := by omega
    by_cases h2 : n < 0x90
    · have g4 : (n : Int) < 144 := by omega
      go_enter Tryz.func95, Tryz.ntmps95
      go_wp2_with fail
      refine bodyPost_ret (results_tmpF rfl _ _) rfl ?_
      rw [HV.out, if_neg h1, if_pos h2]
      exact ⟨by simp, Below.refl _ _⟩
    have g4 : ¬ (n : Int) < 144 := by omega
    have g5 : (144 : Int) ≤ n := by omega
    by_cases h3 : n < 0xa0
    · have g6 : (n : Int) < 160 := by omega
      go_enter Tryz.func95, Tryz.ntmps95
      go_wp2_with fail
      refine bodyPost_ret (results_tmpF rfl _ _) rfl ?_
      rw [HV.out, if_neg h1, if_neg h2, if_pos h3]
      exact ⟨by simp, Below.refl _ _⟩
    have g6 : ¬ (n : Int) < 160 := by omega
    have g7 : (160 : Int) ≤ n := by omega
    have g8 : (n : Int) < 165 := by omega
    go_enter Tryz.func95, Tryz.ntmps95
    go_wp2_with fail
    refine bodyPost_ret (results_tmpF rfl _ _) rfl ?_
    rw [HV.out, if_neg h1, if_neg h2, if_neg h3]
    exact ⟨by simp, Below.refl _ _⟩
  · have HR := Lib.hid h
    rw [hn] at h ⊢
    have h' : n < 96 ∨ 165 ≤ n := by omega
    have hcode : Tryz.f95.body = some (infoA infoR) := rfl
    clear hn
    rcases h' with h1 | h1
    · have g1 : ¬ (96 : Int) ≤ n := by omega
      have g3 : ¬ (128 : Int) ≤ n := by omega
      have g5 : ¬ (144 : Int) ≤ n := by omega
      have g7 : ¬ (160 : Int) ≤ n := by omega
      go_enter Tryz.func95, Tryz.ntmps95
      change Code.wp _ (infoA infoR) _ _ _
      dsimp only [infoA, Tryz.f95]
      go_wp2_with fail
      rw [← HN.out]
      exact info_rest op w HR.out
    · have g1 : (96 : Int) ≤ n := by omega
      have g2 : ¬ (n : Int) < 128 := by omega
      have g3 : (128 : Int) ≤ n := by omega
      have g4 : ¬ (n : Int) < 144 := by omega
      have g5 : (144 : Int) ≤ n := by omega
      have g6 : ¬ (n : Int) < 160 := by omega
      have g7 : (160 : Int) ≤ n := by omega
      have g8 : ¬ (n : Int) < 165 := by omega
      go_enter Tryz.func95, Tryz.ntmps95
      change Code.wp _ (infoA infoR) _ _ _
      dsimp only [infoA, Tryz.f95]
      go_wp2_with fail
      rw [← HN.out]
      exact info_rest op w HR.out
end Go.Proofs.YtlelgbmbmajfmaaGreatDoor
