/- The walk of HeadLengths. -/
import Derived.Test.YtfbopnebfdkhdaaDoorHbyL
import Derived.Test.YtfbopnebfdkhdaaDoorRdJ
namespace Go.Proofs.YtfbopnebfdkhdaaDoor
open Go.RowKit Go.Shelf Go.Lib
attribute [local go_sem] Oper.semAt_some

/-- a reader that gives no message -/
def Fails (f N : Nat) (s : ByteArray) : Prop := ∀ W, Calls Tryd.prog f #[.string s] W fun e w' => ∃ cl : List Value, e = .returned (.tuple #[.agg cl.toArray, .int .i64 130]) ∧ cl.length = N ∧ cl.toArray.all (·.oneCell') = true ∧ Below W.heap.size W w'
theorem ne_isEmpty {m : ByteArray} (h : m ≠ ⟨#[]⟩) : m.toList.isEmpty = false := by
  rw [Lib.toList_data, List.isEmpty_eq_false_iff]
  intro h2
  apply h
  obtain ⟨d⟩ := m
  have : d = #[] := Array.toList_eq_nil_iff.1 h2
  rw [this]
theorem infoUpdateH : (Tryd.prog.info? 52).map (·.size) = some 25 := infoUpdate
theorem spl_fullH_aux (us : List Value) : ∀ (pre zs : List Value), zs.length = us.length → spl (pre ++ zs) pre.length us = pre ++ us := by
  induction us with
  | nil => intro pre zs h; rw [List.length_eq_zero_iff.1 h]; rfl
  | cons v r ih =>
    intro pre zs h
    match zs, h with
    | z :: zs, h =>
      rw [spl]
      have e : (pre ++ z :: zs).set pre.length v = (pre ++ [v]) ++ zs := by simp
      rw [e, show pre.length + 1 = (pre ++ [v]).length by simp, ih (pre ++ [v]) zs (by simpa using h)]
      simp
theorem spl_fullH {zs us : List Value} (h : zs.length = us.length) : spl zs 0 us = us := spl_fullH_aux us [] zs h
theorem sets_belowH {n q : Nat} (h : n ≤ q) (us : List Value) (o : Nat) (W : World) : Below n W (W.setCells q o us) := by
  have hu := Upon.sets q us o W
  exact ⟨hu.os, hu.tape, hu.output, Nat.le_of_eq hu.size.symm, fun j hj => hu.block j (by omega)⟩
set_option maxRecDepth 100000 in
set_option maxHeartbeats 12800000 in
theorem hln_walk (cb cu : List Value) (hcb : cb.length = 12) (hcu : cu.length = 25) (s1 s2 more : ByteArray) (e1 e2 : Int) (w : World) (hK : KTab w) (hm : more.size ≤ 1048576)
    (h1 : ∀ W, Below w.heap.size w W → Calls Tryd.prog 29 #[.agg cb.toArray] W fun x w' => x = .returned (.tuple #[.string s1, .int .i64 e1]) ∧ Below W.heap.size W w')
    (h3 : ∀ W, Below w.heap.size w W → Calls Tryd.prog 31 #[.agg cu.toArray] W fun x w' => x = .returned (.tuple #[.string s2, .int .i64 e2]) ∧ Below W.heap.size W w')
    (hg : e1 = 0 → e2 = 0 → more.extract 0 (min more.size 1000) ≠ ⟨#[]⟩ → 0 < s1.size ∧ 0 < s2.size ∧ s1.size ≤ 65536 ∧ s2.size ≤ 65536 ∧ Fails 23 12 (s1 ++ more.extract 0 (min more.size 1000)) ∧ Fails 25 25 (s2 ++ more.extract 0 (min more.size 1000)) ∧
      Fails 23 12 (s1.extract 0 (s1.size - 1)) ∧ Fails 25 25 (s2.extract 0 (s2.size - 1))) :
    Calls Tryd.prog 9 #[.agg cb.toArray, .agg cu.toArray, .string more] w fun x w' => x = .returned (.bool true) ∧ Below w.heap.size w w' := by
  have H1 := Lib.hid h1
  have H3 := Lib.hid h3
  have HK := Lib.hid hK
  have HCB := Lib.hid hcb
  have HCU := Lib.hid hcu
  have hcl := hby_cells cb cu w
  have HG := Lib.hid hg
  clear h1 h3 hK hcb hcu hg
  obtain ⟨Ab, hAb⟩ : ∃ A, cb.toArray = A := ⟨_, rfl⟩
  obtain ⟨Au, hAu⟩ : ∃ A, cu.toArray = A := ⟨_, rfl⟩
  have HAb := Lib.hid hAb
  have HAu := Lib.hid hAu
  rw [hAb, hAu] at hcl ⊢
  rw [hAb] at H1
  rw [hAu] at H3
  clear hAb hAu
  obtain ⟨q, hq⟩ : ∃ q, min more.size 1000 = q := ⟨_, rfl⟩
  have hq1 : min (more.size : Int) 1000 = (q : Int) := by omega
  have hq2 : q ≤ more.size := by omega
  have hq3 : (0 : Int) ≤ (q : Int) := by omega
  have hq4 : (q : Int) ≤ (more.size : Int) := by omega
  obtain ⟨mm, hmm⟩ : ∃ m, more.extract 0 q = m := ⟨_, rfl⟩
  have hmz : mm.size ≤ 1000 := by rw [← hmm, ByteArray.size_extract]; omega
  rw [hq, hmm] at HG
  have HMZ := Lib.hid hmz
  clear hq hmz hm hq2
  go_enter Tryd.func9, Tryd.ntmps9
  go_wp2_with fail
  obtain ⟨wb, hwb⟩ : ∃ wb, ((w.alloc (.cells Ab 48)).alloc (.cells Au 52)) = wb := ⟨_, rfl⟩
  rw [hwb] at hcl ⊢
  clear hwb
  obtain ⟨hb, hS, hT⟩ := hcl
  have HWB := Lib.hid hb
  have HSB := Lib.hid hS
  have HSU := Lib.hid hT
  clear hb hS hT
  refine (shown13_any wb (HK.out.below HWB.out)).mono ?_
  rintro z w1 ⟨rfl, b1⟩
  go_wp2_with ((with_reducible refine load_gateH 48 ?_); refine wpList_load_mid rfl 48 _ rfl (w.heap.size) 0 rfl cb _ (HSB.out w1 b1) Tryd.underlying48 rfl ?i2 ?_)
  case i2 => rw [HCB.out]; exact infoBoot
  rw [HAb.out]
  refine (H1.out w1 (HWB.out.trans (b1.mono HWB.out.size))).mono ?_
  rintro z w2 ⟨rfl, hb2⟩
  have b2 : Below wb.heap.size wb w2 := b1.trans (hb2.mono b1.size)
  clear hb2 b1
  go_wp2_with ((with_reducible refine load_gateH 52 ?_); refine wpList_load_mid rfl 52 _ rfl (w.heap.size + 1) 0 rfl cu _ (HSU.out w2 b2) Tryd.underlying52 rfl ?i3 ?_)
  case i3 => rw [HCU.out]; exact infoUpdate
  rw [HAu.out]
  refine (H3.out w2 (HWB.out.trans (b2.mono HWB.out.size))).mono ?_
  rintro z w3 ⟨rfl, hb3⟩
  have b3 : Below wb.heap.size wb w3 := b2.trans (hb3.mono b2.size)
  have n3 : Below w.heap.size w w3 := HWB.out.trans (b3.mono HWB.out.size)
  clear hb3 b2
  by_cases he1 : e1 = 0
  · subst he1
    by_cases he2 : e2 = 0
    · subst he2
      by_cases hme : mm = ⟨#[]⟩
      · subst hme
        go_wp2_with fail
        go_ret
        exact ⟨rfl, n3⟩
      · obtain ⟨p1, p2, p3, p4, f1, f2, f3, f4⟩ := HG.out rfl rfl hme
        have F1 := Lib.hid f1
        have F2 := Lib.hid f2
        have F3 := Lib.hid f3
        have F4 := Lib.hid f4
        have hmn : mm.toList.isEmpty = false := ne_isEmpty hme
        have hs1 : s1.toList.isEmpty = false := ne_isEmpty (fun e => by rw [e] at p1; exact absurd p1 (by decide))
        have hs2 : s2.toList.isEmpty = false := ne_isEmpty (fun e => by rw [e] at p2; exact absurd p2 (by decide))
        have hmz := HMZ.out
        have k1 : ¬ 9223372036854775807 < s1.size + mm.size := by omega
        have k2 : ¬ 9223372036854775807 < s2.size + mm.size := by omega
        have v1 : IntKind.i64.wrap ((s1.size : Int) - 1) = ((s1.size - 1 : Nat) : Int) := by rw [IntKind.wrap_i64]; omega
        have v2 : IntKind.i64.wrap ((s2.size : Int) - 1) = ((s2.size - 1 : Nat) : Int) := by rw [IntKind.wrap_i64]; omega
        have v3 : (0 : Int) ≤ ((s1.size - 1 : Nat) : Int) := by omega
        have v4 : (0 : Int) ≤ ((s2.size - 1 : Nat) : Int) := by omega
        have v5 : ((s1.size - 1 : Nat) : Int) ≤ (s1.size : Int) := by omega
        have v6 : ((s2.size - 1 : Nat) : Int) ≤ (s2.size : Int) := by omega
        clear f1 f2 f3 f4 hme hmz p1 p2 p3 p4
        go_wp2_with fail
        refine (F1.out w3).mono ?_
        rintro e x1 ⟨cl1, rfl, hlen, hone, hb⟩
        have hza : HasCells (x1.alloc (.cells bootZ.toArray 48)) x1.heap.size bootZ 48 := HasCells.new _ _ _
        obtain ⟨u1, hm⟩ : ∃ W, (x1.alloc (.cells bootZ.toArray 48)).setCells x1.heap.size 0 cl1 = W := ⟨_, rfl⟩
        have hbm : Below x1.heap.size x1 u1 := by rw [← hm]; exact ((Below.refl _ _).alloc (Nat.le_refl _) _).trans (sets_belowH (Nat.le_refl _) _ _ _)
        have b4 : Below wb.heap.size wb u1 := (b3.trans (hb.mono b3.size)).trans (hbm.mono (b3.trans (hb.mono b3.size)).size)
        have hth : (x1.alloc (.cells bootZ.toArray 48)).there x1.heap.size 0 cl1.toArray.size := by rw [show cl1.toArray.size = 12 from hlen]; exact hza.there 0 12 (by decide)
        have hsi : (Tryd.prog.info? 48).map (·.size) = some cl1.toArray.size := by rw [show cl1.toArray.size = 12 from hlen]; exact infoBootR
        have HTH := Lib.hid hth
        have HSI := Lib.hid hsi
        have HON := Lib.hid hone
        have HM1 := Lib.hid hm
        clear hm hza hbm hth hsi hone hlen hb
        go_wp2_with ((with_reducible refine store_gate 48 ?_); refine wpList_store_mid rfl 48 _ _ rfl x1.heap.size 0 cl1.toArray rfl rfl HTH.out HSI.out HON.out ?_; rw [show (x1.alloc (.cells #[.int .u64 0, .int .u64 0, .string ⟨#[]⟩, .string ⟨#[]⟩, .string ⟨#[]⟩, .string ⟨#[]⟩, .string ⟨#[]⟩, .int .u64 0, .slice none 0 0, .slice none 0 0, .string ⟨#[]⟩, .slice none 0 0] 48)).setCells x1.heap.size 0 cl1.toArray.toList = u1 from HM1.out])
        clear HTH HSI HON
        refine (F2.out u1).mono ?_
        rintro e x2 ⟨cl2, rfl, hlen, hone, hb⟩
        have hza : HasCells (x2.alloc (.cells updZ.toArray 52)) x2.heap.size updZ 52 := HasCells.new _ _ _
        obtain ⟨u2, hm⟩ : ∃ W, (x2.alloc (.cells updZ.toArray 52)).setCells x2.heap.size 0 cl2 = W := ⟨_, rfl⟩
        have hbm : Below x2.heap.size x2 u2 := by rw [← hm]; exact ((Below.refl _ _).alloc (Nat.le_refl _) _).trans (sets_belowH (Nat.le_refl _) _ _ _)
        have b5 : Below wb.heap.size wb u2 := (b4.trans (hb.mono b4.size)).trans (hbm.mono (b4.trans (hb.mono b4.size)).size)
        have hth : (x2.alloc (.cells updZ.toArray 52)).there x2.heap.size 0 cl2.toArray.size := by rw [show cl2.toArray.size = 25 from hlen]; exact hza.there 0 25 (by decide)
        have hsi : (Tryd.prog.info? 52).map (·.size) = some cl2.toArray.size := by rw [show cl2.toArray.size = 25 from hlen]; exact infoUpdateH
        have HTH := Lib.hid hth
        have HSI := Lib.hid hsi
        have HON := Lib.hid hone
        have HM2 := Lib.hid hm
        clear hm hza hbm hth hsi hone hlen hb
        go_wp2_with ((with_reducible refine store_gate 52 ?_); refine wpList_store_mid rfl 52 _ _ rfl x2.heap.size 0 cl2.toArray rfl rfl HTH.out HSI.out HON.out ?_; rw [show (x2.alloc (.cells #[.int .u64 0, .int .u64 0, .string ⟨#[]⟩, .string ⟨#[]⟩, .string ⟨#[]⟩, .string ⟨#[]⟩, .string ⟨#[]⟩, .int .u64 0, .slice none 0 0, .slice none 0 0, .string ⟨#[]⟩, .slice none 0 0, .int .u64 0, .int .u64 0, .string ⟨#[]⟩, .string ⟨#[]⟩, .string ⟨#[]⟩, .string ⟨#[]⟩, .string ⟨#[]⟩, .int .u64 0, .slice none 0 0, .slice none 0 0, .int .u64 0, .string ⟨#[]⟩, .int .u64 0] 52)).setCells x2.heap.size 0 cl2.toArray.toList = u2 from HM2.out])
        clear HTH HSI HON
        refine (F3.out u2).mono ?_
        rintro e x3 ⟨cl3, rfl, hlen, hone, hb⟩
        have hza : HasCells (x3.alloc (.cells bootZ.toArray 48)) x3.heap.size bootZ 48 := HasCells.new _ _ _
        obtain ⟨u3, hm⟩ : ∃ W, (x3.alloc (.cells bootZ.toArray 48)).setCells x3.heap.size 0 cl3 = W := ⟨_, rfl⟩
        have hbm : Below x3.heap.size x3 u3 := by rw [← hm]; exact ((Below.refl _ _).alloc (Nat.le_refl _) _).trans (sets_belowH (Nat.le_refl _) _ _ _)
        have b6 : Below wb.heap.size wb u3 := (b5.trans (hb.mono b5.size)).trans (hbm.mono (b5.trans (hb.mono b5.size)).size)
        have hth : (x3.alloc (.cells bootZ.toArray 48)).there x3.heap.size 0 cl3.toArray.size := by rw [show cl3.toArray.size = 12 from hlen]; exact hza.there 0 12 (by decide)
        have hsi : (Tryd.prog.info? 48).map (·.size) = some cl3.toArray.size := by rw [show cl3.toArray.size = 12 from hlen]; exact infoBootR
        have HTH := Lib.hid hth
        have HSI := Lib.hid hsi
        have HON := Lib.hid hone
        have HM3 := Lib.hid hm
        clear hm hza hbm hth hsi hone hlen hb
        go_wp2_with ((with_reducible refine store_gate 48 ?_); refine wpList_store_mid rfl 48 _ _ rfl x3.heap.size 0 cl3.toArray rfl rfl HTH.out HSI.out HON.out ?_; rw [show (x3.alloc (.cells #[.int .u64 0, .int .u64 0, .string ⟨#[]⟩, .string ⟨#[]⟩, .string ⟨#[]⟩, .string ⟨#[]⟩, .string ⟨#[]⟩, .int .u64 0, .slice none 0 0, .slice none 0 0, .string ⟨#[]⟩, .slice none 0 0] 48)).setCells x3.heap.size 0 cl3.toArray.toList = u3 from HM3.out])
        clear HTH HSI HON
        refine (F4.out u3).mono ?_
        rintro e x4 ⟨cl4, rfl, hlen, hone, hb⟩
        have hza : HasCells (x4.alloc (.cells updZ.toArray 52)) x4.heap.size updZ 52 := HasCells.new _ _ _
        obtain ⟨u4, hm⟩ : ∃ W, (x4.alloc (.cells updZ.toArray 52)).setCells x4.heap.size 0 cl4 = W := ⟨_, rfl⟩
        have hbm : Below x4.heap.size x4 u4 := by rw [← hm]; exact ((Below.refl _ _).alloc (Nat.le_refl _) _).trans (sets_belowH (Nat.le_refl _) _ _ _)
        have b7 : Below wb.heap.size wb u4 := (b6.trans (hb.mono b6.size)).trans (hbm.mono (b6.trans (hb.mono b6.size)).size)
        have hth : (x4.alloc (.cells updZ.toArray 52)).there x4.heap.size 0 cl4.toArray.size := by rw [show cl4.toArray.size = 25 from hlen]; exact hza.there 0 25 (by decide)
        have hsi : (Tryd.prog.info? 52).map (·.size) = some cl4.toArray.size := by rw [show cl4.toArray.size = 25 from hlen]; exact infoUpdateH
        have HTH := Lib.hid hth
        have HSI := Lib.hid hsi
        have HON := Lib.hid hone
        have HM4 := Lib.hid hm
        clear hm hza hbm hth hsi hone hlen hb
        go_wp2_with ((with_reducible refine store_gate 52 ?_); refine wpList_store_mid rfl 52 _ _ rfl x4.heap.size 0 cl4.toArray rfl rfl HTH.out HSI.out HON.out ?_; rw [show (x4.alloc (.cells #[.int .u64 0, .int .u64 0, .string ⟨#[]⟩, .string ⟨#[]⟩, .string ⟨#[]⟩, .string ⟨#[]⟩, .string ⟨#[]⟩, .int .u64 0, .slice none 0 0, .slice none 0 0, .string ⟨#[]⟩, .slice none 0 0, .int .u64 0, .int .u64 0, .string ⟨#[]⟩, .string ⟨#[]⟩, .string ⟨#[]⟩, .string ⟨#[]⟩, .string ⟨#[]⟩, .int .u64 0, .slice none 0 0, .slice none 0 0, .int .u64 0, .string ⟨#[]⟩, .int .u64 0] 52)).setCells x4.heap.size 0 cl4.toArray.toList = u4 from HM4.out])
        go_ret
        exact ⟨rfl, HWB.out.trans (b7.mono HWB.out.size)⟩
    · have hc2 : (e2 != 0) = true := by simp [he2]
      clear he2
      go_wp2_with fail
      go_ret
      exact ⟨rfl, n3⟩
  · have hc1 : (e1 != 0) = true := by simp [he1]
    clear he1
    go_wp2_with fail
    go_ret
    exact ⟨rfl, n3⟩
theorem fails_boot (l : List UInt8) (hl : l.length ≤ 1099511627776) (h : (decode l).2 ≠ 0) : Fails 23 12 ⟨l.toArray⟩ := by
  intro W
  have hb : bootBad (decode l).1 (decode l).2 = true := by
    unfold bootBad
    rw [show decide ((decode l).2 ≠ 0) = true by simpa using h]
    simp
  refine (bootFrom_any l W hl).mono ?_
  rintro e w' ⟨_, _, _, _, _, _, rfl, hw, -⟩
  refine ⟨bootZ, by rw [hb]; rfl, rfl, all_oneCell_toArray (fun v hv => ?_), hw⟩
  unfold bootZ at hv
  simp only [List.mem_cons, List.not_mem_nil, or_false] at hv
  rcases hv with rfl | rfl | rfl | rfl | rfl | rfl | rfl | rfl | rfl | rfl | rfl | rfl <;> rfl
theorem fails_upd (l : List UInt8) (hl : l.length ≤ 1099511627776) (h : (decode l).2 ≠ 0) : Fails 25 25 ⟨l.toArray⟩ := by
  intro W
  have hb : updBad (decode l).1 (decode l).2 = true := by
    unfold updBad
    rw [show decide ((decode l).2 ≠ 0) = true by simpa using h]
    simp
  refine (updFrom_any l W hl).mono ?_
  rintro e w' ⟨_, _, _, _, _, _, _, _, _, _, rfl, hw, -⟩
  refine ⟨updZ, by rw [hb]; rfl, rfl, all_oneCell_toArray (fun v hv => ?_), hw⟩
  unfold updZ at hv
  simp only [List.mem_cons, List.not_mem_nil, or_false] at hv
  rcases hv with rfl | rfl | rfl | rfl | rfl | rfl | rfl | rfl | rfl | rfl | rfl | rfl | rfl | rfl | rfl | rfl | rfl | rfl | rfl | rfl | rfl | rfl | rfl | rfl | rfl <;> rfl
theorem behind_bad {x : Item} {s more : List UInt8} (h : encode x = (s, 0)) (hm : more ≠ []) : (decode (s ++ more)).2 ≠ 0 := by
  by_cases hl : s.length + more.length ≤ 65536
  · rw [decode_behind h hm hl]; decide
  · rw [decode_long (by rw [List.length_append]; omega)]; decide
theorem less_bad {x : Item} {s : List UInt8} (h : encode x = (s, 0)) : (decode (s.take (s.length - 1))).2 ≠ 0 := by
  rw [decode_less h]; decide
theorem hln_good (x y : Item) (mm : ByteArray) (hz : mm.size ≤ 1000) (h1 : (encode x).2 = 0) (h2 : (encode y).2 = 0) (hm : mm ≠ ⟨#[]⟩) :
    0 < (⟨(encode x).1.toArray⟩ : ByteArray).size ∧ 0 < (⟨(encode y).1.toArray⟩ : ByteArray).size ∧ (⟨(encode x).1.toArray⟩ : ByteArray).size ≤ 65536 ∧ (⟨(encode y).1.toArray⟩ : ByteArray).size ≤ 65536 ∧
      Fails 23 12 (⟨(encode x).1.toArray⟩ ++ mm) ∧ Fails 25 25 (⟨(encode y).1.toArray⟩ ++ mm) ∧
      Fails 23 12 ((⟨(encode x).1.toArray⟩ : ByteArray).extract 0 ((⟨(encode x).1.toArray⟩ : ByteArray).size - 1)) ∧ Fails 25 25 ((⟨(encode y).1.toArray⟩ : ByteArray).extract 0 ((⟨(encode y).1.toArray⟩ : ByteArray).size - 1)) := by
  obtain ⟨sx, hx⟩ : ∃ s, (encode x).1 = s := ⟨_, rfl⟩
  obtain ⟨sy, hy⟩ : ∃ s, (encode y).1 = s := ⟨_, rfl⟩
  have ex : encode x = (sx, 0) := by rw [← hx, ← h1]
  have ey : encode y = (sy, 0) := by rw [← hy, ← h2]
  rw [hx, hy]
  obtain ⟨px, _, _, lx⟩ := encode_ok ex
  obtain ⟨py, _, _, ly⟩ := encode_ok ey
  have nx : 0 < sx.length := by rw [px]; exact List.length_pos_iff.2 (put_ne x)
  have ny : 0 < sy.length := by rw [py]; exact List.length_pos_iff.2 (put_ne y)
  have zx : (⟨sx.toArray⟩ : ByteArray).size = sx.length := size_mk sx
  have zy : (⟨sy.toArray⟩ : ByteArray).size = sy.length := size_mk sy
  have hml : mm.data.toList ≠ [] := fun h => hm (by
    obtain ⟨d⟩ := mm
    have : d = #[] := Array.toList_eq_nil_iff.1 h
    rw [this])
  have hmz : mm.data.toList.length ≤ 1000 := hz
  have ax : ((⟨sx.toArray⟩ : ByteArray) ++ mm) = ⟨(sx ++ mm.data.toList).toArray⟩ := app_mk sx mm.data.toList
  have ay : ((⟨sy.toArray⟩ : ByteArray) ++ mm) = ⟨(sy ++ mm.data.toList).toArray⟩ := app_mk sy mm.data.toList
  rw [zx, zy, ax, ay, ext_mk, ext_mk, List.drop_zero, List.drop_zero]
  exact ⟨nx, ny, lx, ly, fails_boot _ (by rw [List.length_append]; omega) (behind_bad ex hml), fails_upd _ (by rw [List.length_append]; omega) (behind_bad ey hml),
    fails_boot _ (by rw [List.length_take]; omega) (less_bad ex), fails_upd _ (by rw [List.length_take]; omega) (less_bad ey)⟩
theorem headLengths_any (nb0 mb0 : Nat) (ab0 bb0 cb0 db0 eb0 : ByteArray) (kb0 : Nat) (Vb0 : Value) (brb0 : List ByteArray) (Vb1 : Value) (brb1 : List ByteArray) (sb1 : ByteArray) (Vb2 : Value) (brb2 : List ByteArray) (nu0 mu0 : Nat) (au0 bu0 cu0 du0 eu0 : ByteArray) (ku0 : Nat) (Vu0 : Value) (bru0 : List ByteArray) (Vu1 : Value) (bru1 : List ByteArray) (su1 : ByteArray) (Vu2 : Value) (bru2 : List ByteArray) (nu3 mu3 : Nat) (au3 bu3 cu3 du3 eu3 : ByteArray) (ku3 : Nat) (Vu3 : Value) (bru3 : List ByteArray) (Vu4 : Value) (bru4 : List ByteArray) (nu5 : Nat) (su6 : ByteArray) (nu7 : Nat) (more : ByteArray) (w : World) (hmore : more.size ≤ 1048576) (hnb0 : nb0 < 18446744073709551616) (hmb0 : mb0 < 18446744073709551616) (hkb0 : kb0 < 18446744073709551616) (hvb0 : Strs w Vb0 brb0) (hvb1 : Strs w Vb1 brb1) (hvb2 : Strs w Vb2 brb2) (hwB : (ab0.size + bb0.size + cb0.size + (db0.size + eb0.size) + weightS brb0) + (weightS brb1 + sb1.size) + weightS brb2 ≤ 1048576) (hnu0 : nu0 < 18446744073709551616) (hmu0 : mu0 < 18446744073709551616) (hku0 : ku0 < 18446744073709551616) (hvu0 : Strs w Vu0 bru0) (hvu1 : Strs w Vu1 bru1) (hvu2 : Strs w Vu2 bru2) (hnu3 : nu3 < 18446744073709551616) (hmu3 : mu3 < 18446744073709551616) (hku3 : ku3 < 18446744073709551616) (hvu3 : Strs w Vu3 bru3) (hvu4 : Strs w Vu4 bru4) (hnu5 : nu5 < 18446744073709551616) (hnu7 : nu7 < 18446744073709551616) (hwU : (au0.size + bu0.size + cu0.size + (du0.size + eu0.size) + weightS bru0) + (weightS bru1 + su1.size) + weightS bru2 + (au3.size + bu3.size + cu3.size + (du3.size + eu3.size) + weightS bru3) + weightS bru4 + 0 + su6.size + 0 ≤ 1048576) (hK : KTab w) :
    Calls Tryd.prog 9 #[.agg #[.int .u64 nb0, .int .u64 mb0, .string ab0, .string bb0, .string cb0, .string db0, .string eb0, .int .u64 kb0, Vb0, Vb1, .string sb1, Vb2], .agg #[.int .u64 nu0, .int .u64 mu0, .string au0, .string bu0, .string cu0, .string du0, .string eu0, .int .u64 ku0, Vu0, Vu1, .string su1, Vu2, .int .u64 nu3, .int .u64 mu3, .string au3, .string bu3, .string cu3, .string du3, .string eu3, .int .u64 ku3, Vu3, Vu4, .int .u64 nu5, .string su6, .int .u64 nu7], .string more] w fun x w' => x = .returned (.bool true) ∧ Below w.heap.size w w' := by
  have hWb0 := hvb0
  have hNb0 : brb0.length ≤ 1048576 := by have := weightS_len brb0; omega
  have hWb1 := hvb1
  have hNb1 : brb1.length ≤ 1048576 := by have := weightS_len brb1; omega
  have hWb2 := hvb2
  have hNb2 : brb2.length ≤ 1048576 := by have := weightS_len brb2; omega
  have hWu0 := hvu0
  have hNu0 : bru0.length ≤ 1048576 := by have := weightS_len bru0; omega
  have hWu1 := hvu1
  have hNu1 : bru1.length ≤ 1048576 := by have := weightS_len bru1; omega
  have hWu2 := hvu2
  have hNu2 : bru2.length ≤ 1048576 := by have := weightS_len bru2; omega
  have hWu3 := hvu3
  have hNu3 : bru3.length ≤ 1048576 := by have := weightS_len bru3; omega
  have hWu4 := hvu4
  have hNu4 : bru4.length ≤ 1048576 := by have := weightS_len bru4; omega
  have hxB : (itL (bootItems nb0 mb0 ab0 bb0 cb0 db0 eb0 kb0 brb0 brb1 sb1 brb2)).weight ≤ 1073741824 := by
    unfold bootItems
    rw [w_itL]
    simp only [weightAll, w_itTs]
    have := w_light nb0 mb0 ab0 bb0 cb0 db0 eb0 kb0 brb0
    have := w_comm brb1 sb1
    omega
  have hxU : (itL (updItems nu0 mu0 au0 bu0 cu0 du0 eu0 ku0 bru0 bru1 su1 bru2 nu3 mu3 au3 bu3 cu3 du3 eu3 ku3 bru3 bru4 nu5 su6 nu7)).weight ≤ 1073741824 := by
    unfold updItems
    rw [w_itL]
    simp only [weightAll, w_itT, w_itTs]
    have := w_light nu0 mu0 au0 bu0 cu0 du0 eu0 ku0 bru0
    have := w_comm bru1 su1
    have := w_light nu3 mu3 au3 bu3 cu3 du3 eu3 ku3 bru3
    have := w_itN nu5
    have := w_itN nu7
    omega
  obtain ⟨pb0, qb0, rfl, -⟩ := hvb0
  obtain ⟨lb0, hlb0⟩ : ∃ l, brb0.length = l := ⟨_, rfl⟩
  rw [hlb0] at hWb0 ⊢
  obtain ⟨pb1, qb1, rfl, -⟩ := hvb1
  obtain ⟨lb1, hlb1⟩ : ∃ l, brb1.length = l := ⟨_, rfl⟩
  rw [hlb1] at hWb1 ⊢
  obtain ⟨pb2, qb2, rfl, -⟩ := hvb2
  obtain ⟨lb2, hlb2⟩ : ∃ l, brb2.length = l := ⟨_, rfl⟩
  rw [hlb2] at hWb2 ⊢
  obtain ⟨pu0, qu0, rfl, -⟩ := hvu0
  obtain ⟨lu0, hlu0⟩ : ∃ l, bru0.length = l := ⟨_, rfl⟩
  rw [hlu0] at hWu0 ⊢
  obtain ⟨pu1, qu1, rfl, -⟩ := hvu1
  obtain ⟨lu1, hlu1⟩ : ∃ l, bru1.length = l := ⟨_, rfl⟩
  rw [hlu1] at hWu1 ⊢
  obtain ⟨pu2, qu2, rfl, -⟩ := hvu2
  obtain ⟨lu2, hlu2⟩ : ∃ l, bru2.length = l := ⟨_, rfl⟩
  rw [hlu2] at hWu2 ⊢
  obtain ⟨pu3, qu3, rfl, -⟩ := hvu3
  obtain ⟨lu3, hlu3⟩ : ∃ l, bru3.length = l := ⟨_, rfl⟩
  rw [hlu3] at hWu3 ⊢
  obtain ⟨pu4, qu4, rfl, -⟩ := hvu4
  obtain ⟨lu4, hlu4⟩ : ∃ l, bru4.length = l := ⟨_, rfl⟩
  rw [hlu4] at hWu4 ⊢
  have h1 := fun W (h : Below w.heap.size w W) => itBoot_any nb0 mb0 ab0 bb0 cb0 db0 eb0 kb0 pb0 lb0 qb0 brb0 pb1 lb1 qb1 brb1 sb1 pb2 lb2 qb2 brb2 W hnb0 hmb0 hkb0 (hWb0.below h) hNb0 (hWb1.below h) hNb1 (hWb2.below h) hNb2 hxB
  have h3 := fun W (h : Below w.heap.size w W) => itUpd_any nu0 mu0 au0 bu0 cu0 du0 eu0 ku0 pu0 lu0 qu0 bru0 pu1 lu1 qu1 bru1 su1 pu2 lu2 qu2 bru2 nu3 mu3 au3 bu3 cu3 du3 eu3 ku3 pu3 lu3 qu3 bru3 pu4 lu4 qu4 bru4 nu5 su6 nu7 W hnu0 hmu0 hku0 (hWu0.below h) hNu0 (hWu1.below h) hNu1 (hWu2.below h) hNu2 hnu3 hmu3 hku3 (hWu3.below h) hNu3 (hWu4.below h) hNu4 hnu5 hnu7 hxU
  unfold encodeV at h1 h3
  exact hln_walk [Value.int .u64 nb0, .int .u64 mb0, .string ab0, .string bb0, .string cb0, .string db0, .string eb0, .int .u64 kb0, .slice pb0 lb0 qb0, .slice pb1 lb1 qb1, .string sb1, .slice pb2 lb2 qb2] [Value.int .u64 nu0, .int .u64 mu0, .string au0, .string bu0, .string cu0, .string du0, .string eu0, .int .u64 ku0, .slice pu0 lu0 qu0, .slice pu1 lu1 qu1, .string su1, .slice pu2 lu2 qu2, .int .u64 nu3, .int .u64 mu3, .string au3, .string bu3, .string cu3, .string du3, .string eu3, .int .u64 ku3, .slice pu3 lu3 qu3, .slice pu4 lu4 qu4, .int .u64 nu5, .string su6, .int .u64 nu7] rfl rfl _ _ more _ _ w hK hmore h1 h3 (fun g1 g2 g3 => hln_good _ _ _ (by rw [ByteArray.size_extract]; omega) g1 g2 g3)
end Go.Proofs.YtfbopnebfdkhdaaDoor
