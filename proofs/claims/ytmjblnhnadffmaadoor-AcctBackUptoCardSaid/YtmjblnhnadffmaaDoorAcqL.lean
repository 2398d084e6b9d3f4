/- The walk of the law AcctBytes: it returns true, and nothing that was there is changed. -/
import Derived.Test.YtmjblnhnadffmaaDoorAcqE
namespace Go.Proofs.YtmjblnhnadffmaaDoor
open Go.RowKit Go.Shelf Go.Lib
attribute [local go_sem] Oper.semAt_some

set_option maxRecDepth 100000 in
theorem eq_wordAt (d : Nat) (x0 x1 x2 x3 y0 y1 y2 y3 : Int) (W : World) :
    (Op.equalIn (d + 2) 24 (.agg #[.int .u64 x0, .int .u64 x1, .int .u64 x2, .int .u64 x3]) (.agg #[.int .u64 y0, .int .u64 y1, .int .u64 y2, .int .u64 y3])).run Tryd.prog W = .ok (x0 == y0 && (x1 == y1 && (x2 == y2 && x3 == y3))) W := by
  obtain ⟨i, hi⟩ := Option.isSome_iff_exists.1 infoU64
  rw [show d + 2 = (d + 1) + 1 from rfl, run_equalIn_array W (d + 1) _ _ Tryd.underlying24 hi, cellsU64]
  have hr : List.range 4 = [0, 1, 2, 3] := rfl
  rw [hr]
  have hp : ∀ (v0 v1 v2 v3 : Int) (k : Nat) (u : Value) (W : World), (#[Value.int .u64 v0, .int .u64 v1, .int .u64 v2, .int .u64 v3])[k]? = some u → (Go.part 22 #[Value.int .u64 v0, .int .u64 v1, .int .u64 v2, .int .u64 v3] k).run Tryd.prog W = .ok u W := fun v0 v1 v2 v3 k u W h => run_part_plain W plainU64 h
  have he : ∀ (a b : Int) (W : World), (Op.equalIn (d + 1) 22 (.int .u64 a) (.int .u64 b)).run Tryd.prog W = .ok (a == b) W := fun a b W => run_equalIn_int W d _ _ _ _ _ Tryd.underlying22
  simp only [Op.eqItems, Sem.run_bind, Nat.mul_one, hp x0 x1 x2 x3 0 (.int .u64 x0) _ rfl, hp x0 x1 x2 x3 1 (.int .u64 x1) _ rfl, hp x0 x1 x2 x3 2 (.int .u64 x2) _ rfl, hp x0 x1 x2 x3 3 (.int .u64 x3) _ rfl, hp y0 y1 y2 y3 0 (.int .u64 y0) _ rfl, hp y0 y1 y2 y3 1 (.int .u64 y1) _ rfl, hp y0 y1 y2 y3 2 (.int .u64 y2) _ rfl, hp y0 y1 y2 y3 3 (.int .u64 y3) _ rfl, Result.andThen_ok, he, Sem.run_ite]
  cases (x0 == y0) <;> cases (x1 == y1) <;> cases (x2 == y2) <;> cases (x3 == y3) <;> simp
set_option maxRecDepth 100000 in
theorem eq_acct (n x0 x1 x2 x3 : Int) (r c : ByteArray) (W : World) : (Op.equalIn 10000 32 (.agg (acctL n x0 x1 x2 x3 r c).toArray) (.agg (acctL n x0 x1 x2 x3 r c).toArray)).run Tryd.prog W = .ok true W := by
  have hw := eq_wordAt 9997 x0 x1 x2 x3 x0 x1 x2 x3
  unfold acctL
  rw [show (10000 : Nat) = 9999 + 1 from rfl]
  go_simp
theorem acctV_form (n b : Nat) (r c : ByteArray) : acctV n b r c = .agg (acctL n (limb b 0) (limb b 1) (limb b 2) (limb b 3) r c).toArray := rfl
theorem acctOf_form (s : List UInt8) : ∃ n x0 x1 x2 x3 r c, acctOf s = .agg (acctL n x0 x1 x2 x3 r c).toArray := by
  unfold acctOf
  cases acctOk s with
  | true => exact ⟨_, _, _, _, _, _, _, acctV_form _ _ _ _⟩
  | false => exact ⟨_, _, _, _, _, _, _, acctV_form _ _ _ _⟩
set_option maxRecDepth 100000 in
set_option maxHeartbeats 12800000 in
theorem law_bytes (n b : Nat) (root code : ByteArray) (s : ByteArray) (w : World) (hn : n < 18446744073709551616) (_ : b < 256 ^ 32) (_ : root.size + code.size ≤ 1048576) (hs : s.size ≤ 1048576) (hK : KecT w) :
    Calls Tryd.prog 7 #[acctV n b root code, .string s] w fun e w' => e = .returned (.bool true) ∧ Below w.heap.size w w' := by
  obtain ⟨pl, er, hpe⟩ : ∃ l e, acctBytes n b root.data.toList code.data.toList = (l, e) := ⟨_, _, rfl⟩
  have HB1 := fun W => acctBytes_any n b root code W hn
  have HB2 := fun W => acctBytesRef_any n b root code W hn
  obtain ⟨A, hA⟩ : ∃ A, acctL n (limb b 0) (limb b 1) (limb b 2) (limb b 3) root code = A := ⟨_, rfl⟩
  have hA1 : A.toArray.all (·.oneCell') = true := by rw [← hA]; exact acctL_one _ _ _ _ _ _ _
  have hA7 : A.length = 7 := by rw [← hA]; rfl
  rw [acctV_form, hA] at HB1 HB2 ⊢
  rw [hpe] at HB1 HB2
  obtain ⟨y, y0, y1, y2, y3, yr, yc, hy⟩ := acctOf_form s.data.toList
  have HF1 := fun W => acctFrom_any s.data.toList W (by show s.size ≤ _; omega)
  have HF2 := fun W => acctFromRef_any s.data.toList W (by show s.size ≤ _; omega)
  rw [hy] at HF1 HF2
  obtain ⟨C, hC⟩ : ∃ C, acctL y y0 y1 y2 y3 yr yc = C := ⟨_, rfl⟩
  have hC1 : C.toArray.all (·.oneCell') = true := by rw [← hC]; exact acctL_one _ _ _ _ _ _ _
  have hcz : spl acctZ 0 C = C := by rw [← hC]; rfl
  have hC7 : C.length = 7 := by rw [← hC]; rfl
  have hq : ∀ W, (Op.equalIn 10000 32 (.agg C.toArray) (.agg C.toArray)).run Tryd.prog W = .ok true W := by rw [← hC]; exact eq_acct _ _ _ _ _ _ _
  have hZ := fun W => eq_acct 0 0 0 0 0 (kecB [128]) (kecB []) W
  rw [hC] at HF1 HF2
  obtain ⟨ef, hef⟩ : ∃ e, acctErr s.data.toList = e := ⟨_, rfl⟩
  rw [hef] at HF1 HF2
  have HE1 := fun W hK => empty_any W hK
  have HE2 := fun W => emptyRef_any W
  rw [acctV_form] at HE1 HE2
  obtain ⟨D, hD⟩ : ∃ D, acctL ((0 : Nat) : Int) (limb 0 0) (limb 0 1) (limb 0 2) (limb 0 3) (kecB [128]) (kecB []) = D := ⟨_, rfl⟩
  have hqd : ∀ W, (Op.equalIn 10000 32 (.agg D.toArray) (.agg D.toArray)).run Tryd.prog W = .ok true W := by rw [← hD]; exact eq_acct _ _ _ _ _ _ _
  rw [hD] at HE1 HE2
  have HA := Lib.hid (And.intro hA1 hA7)
  have HCC := Lib.hid (And.intro hC1 hC7)
  have HCZ := Lib.hid hcz
  have H1 := Lib.hid HB1
  have H2 := Lib.hid HB2
  have H3 := Lib.hid HF1
  have H4 := Lib.hid HF2
  have H5 := Lib.hid HE1
  have H6 := Lib.hid HE2
  have HK := Lib.hid hK
  have hb0 := laid1 w (.cells A.toArray 32)
  have hq0 := HasCells.new w A 32
  obtain ⟨w0, hw0⟩ : ∃ W, w.alloc (.cells A.toArray 32) = W := ⟨_, rfl⟩
  rw [hw0] at hb0 hq0
  have HW0 := Lib.hid hw0
  have HB0 := Lib.hid hb0
  have HQ0 := Lib.hid hq0
  clear hpe HB1 HB2 hA hA1 hA7 hy HF1 HF2 hC hC1 hC7 hcz hef HE1 HE2 hD hZ hK hb0 hq0 hw0 hs hn
  go_enter Tryd.func7, Tryd.ntmps7
  go_wp2_with fail
  rw [HW0.out]
  refine (shown16_any _).mono ?_
  rintro e w1 ⟨rfl, hb1⟩
  have HB1 := Lib.hid (HB0.out.trans (hb1.mono HB0.out.size))
  have HQ1 := Lib.hid (HQ0.out.after hb1)
  clear hb1
  go_wp2_with ((with_reducible refine load_gateK 32 ?_); refine wpList_load_mid rfl 32 _ rfl w.heap.size 0 rfl A _ HQ1.out.range Tryd.underlying32 rfl (by rw [HA.out.2]; exact infoAcct) ?_)
  refine (H1.out _).mono ?_
  rintro e w2 ⟨rfl, hb2⟩
  have HB2 := Lib.hid (HB1.out.trans (hb2.mono HB1.out.size))
  have HQ2 := Lib.hid (HQ1.out.after hb2)
  clear hb2
  go_wp2_with ((with_reducible refine load_gateK 32 ?_); refine wpList_load_mid rfl 32 _ rfl w.heap.size 0 rfl A _ HQ2.out.range Tryd.underlying32 rfl (by rw [HA.out.2]; exact infoAcct) ?_)
  refine (H2.out _).mono ?_
  rintro e w3 ⟨rfl, hb3⟩
  have HB3 := Lib.hid (HB2.out.trans (hb3.mono HB2.out.size))
  have HQ3 := Lib.hid (HQ2.out.after hb3)
  clear hb3
  go_wp2_with fail
  refine (H3.out _).mono ?_
  rintro e w4 ⟨rfl, hb4⟩
  have HB4 := Lib.hid (HB3.out.trans (hb4.mono HB3.out.size))
  clear hb4
  obtain ⟨w5, hw5⟩ : ∃ W, (w4.alloc (.cells acctZ.toArray 32)).setCells w4.heap.size 0 C = W := ⟨_, rfl⟩
  have hb5 : Below w4.heap.size w4 w5 := by rw [← hw5]; exact (laid1 w4 _).trans (sets_belowK (Nat.le_refl _) _ _ _)
  have hq5 : HasCells w5 w4.heap.size C 32 := by
    rw [← hw5]
    have h := (HasCells.new w4 acctZ 32).sets C 0
    rw [HCZ.out] at h
    exact h
  have HB5 := Lib.hid (HB4.out.trans (hb5.mono HB4.out.size))
  have HQ5 := Lib.hid hq5
  have HWN5 := Lib.hid (show (w4.alloc (.cells #[.int .u64 0, .int .u64 0, .int .u64 0, .int .u64 0, .int .u64 0, .string ⟨#[]⟩, .string ⟨#[]⟩] 32)).setCells w4.heap.size 0 C = w5 from hw5)
  clear hw5 hq5 hb5
  go_wp2_with ((with_reducible refine store_gateK 32 ?_); refine wpList_store_mid rfl 32 _ _ rfl w4.heap.size 0 C.toArray rfl rfl ((HasCells.new w4 acctZ 32).there 0 _ (by rw [List.size_toArray, HCC.out.2]; decide)) (by rw [List.size_toArray, HCC.out.2]; exact infoAcct) HCC.out.1 ?_)
  rw [HWN5.out]
  refine (H4.out _).mono ?_
  rintro e w6 ⟨rfl, hb6⟩
  have HB6 := Lib.hid (HB5.out.trans (hb6.mono HB5.out.size))
  have HQ6 := Lib.hid (HQ5.out.after hb6)
  clear hb6
  obtain ⟨w7, hw7⟩ : ∃ W, (w6.alloc (.cells acctZ.toArray 32)).setCells w6.heap.size 0 C = W := ⟨_, rfl⟩
  have hb7 : Below w6.heap.size w6 w7 := by rw [← hw7]; exact (laid1 w6 _).trans (sets_belowK (Nat.le_refl _) _ _ _)
  have hq7 : HasCells w7 w6.heap.size C 32 := by
    rw [← hw7]
    have h := (HasCells.new w6 acctZ 32).sets C 0
    rw [HCZ.out] at h
    exact h
  have HB7 := Lib.hid (HB6.out.trans (hb7.mono HB6.out.size))
  have HQ7 := Lib.hid hq7
  have HWN7 := Lib.hid (show (w6.alloc (.cells #[.int .u64 0, .int .u64 0, .int .u64 0, .int .u64 0, .int .u64 0, .string ⟨#[]⟩, .string ⟨#[]⟩] 32)).setCells w6.heap.size 0 C = w7 from hw7)
  have HQ67 := Lib.hid (HQ6.out.after hb7)
  clear hw7 hq7 hb7
  go_wp2_with (first | rw [HWN7.out] | ((with_reducible refine store_gateK 32 ?_); refine wpList_store_mid rfl 32 _ _ rfl w6.heap.size 0 C.toArray rfl rfl ((HasCells.new w6 acctZ 32).there 0 _ (by rw [List.size_toArray, HCC.out.2]; decide)) (by rw [List.size_toArray, HCC.out.2]; exact infoAcct) HCC.out.1 ?_) | ((with_reducible refine load_gateK 32 ?_); refine wpList_load_midK (by rfl) 32 _ rfl w4.heap.size 0 rfl C _ HQ67.out.range Tryd.underlying32 rfl (by rw [HCC.out.2]; exact infoAcct) ?_) | ((with_reducible refine load_gateK 32 ?_); refine wpList_load_midK (by rfl) 32 _ rfl w6.heap.size 0 rfl C _ HQ7.out.range Tryd.underlying32 rfl (by rw [HCC.out.2]; exact infoAcct) ?_))
  refine (H5.out _ (HK.out.below HB7.out)).mono ?_
  rintro e w8 ⟨rfl, hb8⟩
  have HB8 := Lib.hid (HB7.out.trans (hb8.mono HB7.out.size))
  clear hb8
  go_wp2_with fail
  refine (H6.out _).mono ?_
  rintro e w9 ⟨rfl, hb9⟩
  have HB9 := Lib.hid (HB8.out.trans (hb9.mono HB8.out.size))
  clear hb9
  go_wp2
  go_ret
  exact ⟨rfl, HB9.out⟩
end Go.Proofs.YtmjblnhnadffmaaDoor
