/- What the walks take: TrgK, TrgM. -/
import Derived.Test.YthicdhnjincflaaGreatDoorU0
import Derived.Test.YthicdhnjincflaaGreatDoorU28
namespace Go.Proofs.YthicdhnjincflaaGreatDoor
open Go.RowKit Go.Shelf Go.Lib
attribute [local go_sem] Oper.semAt_some
theorem wp_calm {P : Program} {c : Code} {K : Act → World → Prop} {Q : Exit → Act → World → Prop} {a : Act} {w : World} (h : c.wp P (Exit.then K (fun _ _ _ => False)) a w) : c.wp P (Exit.then K Q) a w :=
  Code.wp_mono (fun e a W h => by cases e <;> first | exact h | exact h.elim) h
theorem wp_calm2 {P : Program} {c : Code} {Q : Exit → Act → World → Prop} {a : Act} {w : World} (h : c.wp P (Exit.then (fun a w => Q .normal a w) (fun _ _ _ => False)) a w) : c.wp P Q a w :=
  Code.wp_mono (fun e a W h => by cases e <;> first | exact h | exact h.elim) h
set_option maxRecDepth 100000 in
set_option maxHeartbeats 12800000 in
theorem grow_br (f : Nat) (hG : GrowC f) (q q2 : PairD) (r : List PairD) (d : Nat) (v : Value) (w : World) (hasc : Asc (q :: q2 :: r)) (heven : Even (q :: q2 :: r) d) (hval : Valid (q :: q2 :: r) d) (hfa : Fair (q :: q2 :: r)) (hun : (q :: q2 :: r).Pairwise (fun a b => a.1 ≠ b.1)) (hlen : (q :: q2 :: r).length ≤ 1000) (hfd : 129 ≤ d + (f + 1))
    (hkt : KecT w) (hv : Pairs w v ((q :: q2 :: r).map (cutQ d))) (hn : ¬ 0 < alikeP (q :: q2 :: r) d) :
    Calls Tryz.prog 34 #[v] w fun e w' => ∃ g, e = .returned (.pointer (some ⟨g, 0, none⟩)) ∧ NodeAt (f + 1) (fun k => w.heap.size ≤ k ∧ k < w'.heap.size) w' (q :: q2 :: r) d g ∧ Below w.heap.size w w' := by
  obtain ⟨b, hfit⟩ := node_fit (K := keccakL) keccakL_length (f + 1) (q :: q2 :: r) d hval hfa hfd
  have hal := asc_alike hasc heven
  have hkp := kids_final hn
  have hx : nodeP keccakL (f + 1) (q :: q2 :: r) d = brI ((List.range 16).map (childP f (q :: q2 :: r) d)) (endingP (q :: q2 :: r) d) := by
    rw [node_two, if_neg hn]; rfl
  have hql := (hval.2 q List.mem_cons_self).2
  have hll := List.getLast_mem (l := q :: q2 :: r) (by simp)
  obtain ⟨qz, hqz⟩ : ∃ z, (q :: q2 :: r).getLast (by simp) = z := ⟨_, rfl⟩
  rw [hqz] at hal hll
  have hzl := (hval.2 qz hll).2
  have hlast : (q :: q2 :: r)[(q :: q2 :: r).length - 1]? = some qz := by rw [← hqz, ← List.getLast?_eq_getElem?]; exact List.getLast?_eq_some_getLast _
  obtain ⟨pt, hpt⟩ : ∃ p, (pth q).drop d = p := ⟨_, rfl⟩
  obtain ⟨pz, hpz⟩ : ∃ p, (pth qz).drop d = p := ⟨_, rfl⟩
  have hpl : pt.length ≤ 128 := by rw [← hpt, List.length_drop]; omega
  have hpzl : pz.length ≤ 128 := by rw [← hpz, List.length_drop]; omega
  rw [hpt, hpz] at hal
  have hn0 : alikeP (q :: q2 :: r) d = 0 := by omega
  rw [hn0] at hal
  obtain ⟨ps, hps⟩ : ∃ ps, q :: q2 :: r = ps := ⟨_, rfl⟩
  have hcl := hv.cells (by simp)
  rw [hps] at hasc heven hval hfa hun hlen hv hx hkp hlast hcl hfit ⊢
  obtain ⟨bk, ob, c, hvv, hcc, hbk, hcl⟩ := hcl
  rw [List.length_map] at hvv hcc
  have hl2 : 2 ≤ ps.length := by rw [← hps]; simp
  obtain ⟨l1, hl1⟩ : ∃ l1, ps.length = l1 + 1 := ⟨ps.length - 1, by omega⟩
  have c0 := (hcl 0 (cutQ d q) (by rw [← hps]; rfl)).1
  rw [Nat.zero_mul, Nat.add_zero] at c0
  have c1 := (hcl l1 (cutQ d qz) (by rw [List.getElem?_map, show l1 = ps.length - 1 by omega, hlast]; rfl)).1
  rw [show (cutQ d q).1 = pt from hpt] at c0
  rw [show (cutQ d qz).1 = pz from hpz] at c1
  have HC := Lib.hid (fun W (hb : Below w.heap.size w W) => (show W.cell? ⟨bk, ob, none⟩ = some (.string ⟨pt.toArray⟩) ∧ W.cell? ⟨bk, ob + l1 * 2, none⟩ = some (.string ⟨pz.toArray⟩) from
    ⟨(hb.cell (p := ⟨bk, ob, none⟩) hbk).trans c0, (hb.cell (p := ⟨bk, ob + l1 * 2, none⟩) hbk).trans c1⟩))
  have hd1 : ∀ x ∈ ps, d ≤ (pth x).length := fun x hx => (hval.2 x hx).1
  have hflat := parts_flat hasc heven
  have HSEG := Lib.hid (fun W (hb : Below w.heap.size w W) => (show SegAt bk W (.slice (some ⟨bk, ob, none⟩) ps.length c) ((partsP ps d).flatMap (·.2)) from by
    rw [hflat]
    exact ⟨_, c, by rw [List.length_map], by rw [List.length_map]; exact hcc, .inr ⟨ob, rfl, Nat.lt_of_lt_of_le hbk hb.size, fun j q hq => ⟨(hb.cell (p := ⟨bk, ob + j * 2, none⟩) hbk).trans (hcl j q hq).1, (hb.cell (p := ⟨bk, ob + j * 2 + 1, none⟩) hbk).trans (hcl j q hq).2⟩⟩⟩))
  have HFL := Lib.hid (show ((partsP ps d).flatMap (·.2)).length ≤ 1000 from by rw [hflat, List.length_map]; exact hlen)
  have HPO := Lib.hid (parts_ok heven hd1 hun)
  have HPS := Lib.hid (fun s (hs : s ∈ partsP ps d) => parts_spec heven hd1 hun hs)
  have HGR := Lib.hid (fun h (hh : h < 16) x m (hm : havingP ps d (UInt8.ofNat h) = x :: m) V W (hb : Below w.heap.size w W) (hp : Pairs W V ((x :: m).map (cutQ (d + 1)))) =>
    hG (x :: m) (d + 1) V W (hm ▸ hasc.filter _) (hm ▸ even_having heven) (valid_having hval hm) (fair_having hfa hm) (hm ▸ List.Pairwise.filter _ hun) (by have := having_len ps d (UInt8.ofNat h); rw [hm] at this; omega) (by omega) (hkt.belowP hb) hp)
  have HYS := Lib.hid (fun h (hh : h < 16) x m (hm : havingP ps d (UInt8.ofNat h) = x :: m) => (show (bytesP keccakL f (x :: m) (d + 1)).length ≤ 1000000 from by
    obtain ⟨b2, hfit2⟩ := node_fit (K := keccakL) keccakL_length f (x :: m) (d + 1) (valid_having hval hm) (fair_having hfa hm) (by omega)
    unfold bytesP; rw [hfit2.encode]; have := hfit2.short; dsimp only; omega))
  have HHL := Lib.hid (fun h x m (hm : havingP ps d (UInt8.ofNat h) = x :: m) => (show (x :: m).length ≤ 1000 from by have := having_len ps d (UInt8.ofNat h); rw [hm] at this; omega))
  have HHM := Lib.hid (fun h x m (hm : havingP ps d (UInt8.ofNat h) = x :: m) y (hy : y ∈ x :: m) => (having_mem (hm ▸ hy : y ∈ havingP ps d (UInt8.ofNat h))).2)
  have HPL := Lib.hid (fun y (hy : y ∈ ps) => (hval.2 y hy).2)
  have HKT := Lib.hid (fun W (hb : Below w.heap.size w W) => hkt.belowP hb)
  have HCM := Lib.hid (fun W => common_any ⟨pt.toArray⟩ ⟨pz.toArray⟩ W (by show pt.length ≤ _; omega) (by show pz.length ≤ _; omega))
  rw [show common (⟨pt.toArray⟩ : ByteArray).data.toList (⟨pz.toArray⟩ : ByteArray).data.toList = 0 from hal.symm] at HCM
  have hfin := items_final f heven hd1 hun
  obtain ⟨its, hits⟩ : ∃ l, (List.range 16).map (childP f ps d) ++ [txtI (endingP ps d)] = l := ⟨_, rfl⟩
  rw [hits] at hfin
  have hx2 : nodeP keccakL (f + 1) ps d = lstI its := by rw [hx, ← hits]; rfl
  rw [hx2] at hfit
  obtain ⟨by_, hby⟩ : ∃ p, put (lstI its) = p := ⟨_, rfl⟩
  have HBY := Lib.hid (show bytesP keccakL (f + 1) ps d = by_ from by unfold bytesP; rw [hx2, hfit.encode, hby])
  have HX := Lib.hid hx2
  have HFIN := Lib.hid hfin
  have HKP := Lib.hid hkp
  have HE := Lib.hid (encode_list hfit hby)
  subst hvv
  have i0 : ((l1 + 1 : Nat) : Int) - 1 = (l1 : Int) := by omega
  have i1 : IntKind.i64.wrap (l1 : Int) = (l1 : Int) := by rw [IntKind.wrap_i64]; omega
  have i2 : (l1 : Int) < ((l1 + 1 : Nat) : Int) := by omega
  have i3 : (0 : Int) ≤ (l1 : Int) := by omega
  have i4 : (((l1 + 1 : Nat) : Int) == 1) = false := by simp; omega
  obtain ⟨ln, hln⟩ : ∃ ln, l1 + 1 = ln := ⟨_, rfl⟩
  rw [hl1] at HSEG ⊢
  rw [hln] at i0 i2 i4 HSEG ⊢
  have i8 : ¬ ((ln : Int) = 1) := by omega
  have i9 : 0 < ln := by omega
  have i10 : l1 < ln := by omega
  clear hval hfa hfd hv hfit hx hx2 hby hcl c0 c1 hasc heven hun hlen hkt hal hG hqz hll hlast hpt hpz hn0 hps hkp hql hzl hln hl1 hl2 hfin hits hflat hd1 hpl hpzl hn
  refine (callsIn_wide (n := 100)).1 ?_
  refine callsIn_of_wp_marks Tryz.func34 rfl trivial (wpIn_wide.2 ?_) rfl
  simp only [Tryz.ntmps34, List.size_toArray, List.length_cons, List.length_nil, Nat.reduceAdd, Nat.reduceSub, Array.replicate_succ, Array.replicate_zero, List.push_toArray, List.append_toArray, List.nil_append, List.cons_append]
  go_wp2_with fail
  obtain ⟨w0, hw0⟩ : ∃ W, (w.alloc (.cells #[.bool false, .string ⟨#[]⟩, .slice none 0 0, .string ⟨#[]⟩, .slice none 0 0, .slice none 0 0] 49)).alloc (.cells #[.pointer (some ⟨w.heap.size, 0, none⟩)] 41) = W := ⟨_, rfl⟩
  have hb0 : Below w.heap.size w w0 := by rw [← hw0]; exact laid2 w _ _
  have hx0 : HasCells w0 w.heap.size [.bool false, .string ⟨#[]⟩, .slice none 0 0, .string ⟨#[]⟩, .slice none 0 0, .slice none 0 0] 49 := by rw [← hw0]; exact (HasCells.new w [.bool false, .string ⟨#[]⟩, .slice none 0 0, .string ⟨#[]⟩, .slice none 0 0, .slice none 0 0] 49).alloc _
  have hp0 : HasCells w0 (w.heap.size + 1) [.pointer (some ⟨w.heap.size, 0, none⟩)] 41 := by
    have h := HasCells.new (w.alloc (.cells #[.bool false, .string ⟨#[]⟩, .slice none 0 0, .string ⟨#[]⟩, .slice none 0 0, .slice none 0 0] 49)) [.pointer (some ⟨w.heap.size, 0, none⟩)] 41
    rw [World.size_alloc] at h
    rw [← hw0]
    exact h
  have HB0 := Lib.hid hb0
  have HX0 := Lib.hid hx0
  have HP0 := Lib.hid hp0
  rw [hw0]
  clear hw0 hb0 hx0 hp0
  refine wp_calm ?_
  refine wp_region_held_drew (S := (fun W => W.cell? ⟨bk, ob, none⟩ = some (.string ⟨pt.toArray⟩) ∧ W.cell? ⟨bk, ob + l1 * 2, none⟩ = some (.string ⟨pz.toArray⟩))) (by kernel_rfl) ((HC.out _ HB0.out.drew)) (fun hHeld => ?_)
  refine wpAnyH_take (i := 0) (v := ?_) rfl (by kernel_rfl) (by kernel_rfl) (by kernel_rfl) (fun _ _ _ h => h) (.inl ⟨by rfl, ?_⟩) (by assumption) ?_
  rotate_left 1
  · intro w0 hSw
    go_simp <;> with_reducible rfl
  try simp only [Act.put, zq1, zq2, zq4, zq5, zq6]
  refine wpAnyH_take (i := 1) (v := ?_) rfl (by kernel_rfl) (by kernel_rfl) (by kernel_rfl) (fun _ _ _ h => h) (.inl ⟨by rfl, ?_⟩) (by assumption) ?_
  rotate_left 1
  · intro w0 hSw
    go_simp <;> with_reducible rfl
  try simp only [Act.put, zq1, zq2, zq3, zq4, zq5, zq6]
  refine wpAnyH_take (i := 2) (v := ?_) rfl (by kernel_rfl) (by kernel_rfl) (by kernel_rfl) (fun _ _ _ h => h) (.inl ⟨by rfl, ?_⟩) (by assumption) ?_
  rotate_left 1
  · intro w0 hSw
    go_simp <;> with_reducible rfl
  try simp only [Act.put, zq1, zq2, zq3, zq4, zq5, zq6]
  refine wpAnyH_take (i := 3) (v := ?_) rfl (by kernel_rfl) (by kernel_rfl) (by kernel_rfl) (fun _ _ _ h => h) (.inl ⟨by rfl, ?_⟩) (by assumption) ?_
  rotate_left 1
  · intro w0 hSw
    obtain ⟨z0, z1⟩ := hSw
    go_simp <;> with_reducible rfl
  try simp only [Act.put, zq1, zq2, zq3, zq4, zq5, zq6]
  refine wpAnyH_take (i := 4) (v := ?_) rfl (by kernel_rfl) (by kernel_rfl) (by kernel_rfl) (fun _ _ _ h => h) (.inl ⟨by rfl, ?_⟩) (by assumption) ?_
  rotate_left 1
  · intro w0 hSw
    go_simp <;> with_reducible rfl
  try simp only [Act.put, zq1, zq2, zq3, zq4, zq5, zq6]
  refine wpAnyH_take (i := 5) (v := ?_) rfl (by kernel_rfl) (by kernel_rfl) (by kernel_rfl) (fun _ _ _ h => h) (.inl ⟨by rfl, ?_⟩) (by assumption) ?_
  rotate_left 1
  · intro w0 hSw
    go_simp <;> with_reducible rfl
  try simp only [Act.put, zq1, zq2, zq3, zq4, zq5, zq6]
  refine wpAnyH_take (i := 6) (v := ?_) rfl (by kernel_rfl) (by kernel_rfl) (by kernel_rfl) (fun _ _ _ h => h) (.inl ⟨by rfl, ?_⟩) (by assumption) ?_
  rotate_left 1
  · intro w0 hSw
    go_simp <;> with_reducible rfl
  try simp only [Act.put, zq1, zq2, zq3, zq4, zq5, zq6]
  refine wpAnyH_take (i := 7) (v := ?_) rfl (by kernel_rfl) (by kernel_rfl) (by kernel_rfl) (fun _ _ _ h => h) (.inl ⟨by rfl, ?_⟩) (by assumption) ?_
  rotate_left 1
  · intro w0 hSw
    go_simp <;> with_reducible rfl
  try simp only [Act.put, zq1, zq2, zq3, zq4, zq5, zq6]
  refine wpAnyH_take (i := 8) (v := ?_) rfl (by kernel_rfl) (by kernel_rfl) (by kernel_rfl) (fun _ _ _ h => h) (.inl ⟨by rfl, ?_⟩) (by assumption) ?_
  rotate_left 1
  · intro w0 hSw
    go_simp <;> with_reducible rfl
  try simp only [Act.put, zq1, zq2, zq3, zq4, zq5, zq6]
  refine wpAnyH_take (i := 9) (v := ?_) rfl (by kernel_rfl) (by kernel_rfl) (by kernel_rfl) (fun _ _ _ h => h) (.inl ⟨by rfl, ?_⟩) (by assumption) ?_
  rotate_left 1
  · intro w0 hSw
    go_simp <;> with_reducible rfl
  try simp only [Act.put, zq1, zq2, zq3, zq4, zq5, zq6]
  refine wpAnyH_take (i := 10) (v := ?_) rfl (by kernel_rfl) (by kernel_rfl) (by kernel_rfl) (fun _ _ _ h => h) (.inl ⟨by rfl, ?_⟩) (by assumption) ?_
  rotate_left 1
  · intro w0 hSw
    obtain ⟨z0, z1⟩ := hSw
    go_simp <;> with_reducible rfl
  try simp only [Act.put, zq1, zq2, zq3, zq4, zq5, zq6]
  refine wpAnyH_ready (rs := [11]) (by kernel_rfl) (by simp) ?_
  refine AllReadyH.cons rfl (fun K hK => ?_) AllReadyH.nil
  go_simp
  go_at_call 56
  refine (HCM.out _).mono ?_
  rintro e w1 ⟨rfl, hb1⟩
  have HB1 := Lib.hid (HB0.out.trans ((Below.refl _ _).drew.trans hb1 |>.mono HB0.out.size))
  have HX1 := Lib.hid ((HX0.out.kept rfl : HasCells w0.drew _ _ 49).after hb1)
  have HP1 := Lib.hid ((HP0.out.kept rfl : HasCells w0.drew _ _ 41).after hb1)
  clear hb1 HB0 HX0 HP0
  refine hK.out _ _ ((HC.out _ HB1.out)) (fun hHeld => ?_)
  clear hK K
  try simp only [Act.put, zq1, zq2, zq3, zq4, zq5, zq6]
  refine wpAnyH_take (i := 12) (v := ?_) rfl (by kernel_rfl) (by kernel_rfl) (by kernel_rfl) (fun _ _ _ h => h) (.inl ⟨by rfl, ?_⟩) (by assumption) ?_
  rotate_left 1
  · intro w0 hSw
    go_simp <;> with_reducible rfl
  try simp only [Act.put, zq1, zq2, zq3, zq4, zq5, zq6]
  refine wpAnyH_done (by kernel_rfl) ?_ 0
  go_wp2_with (at_make; refine wpList_make17 rfl _ _ 44 rfl Tryz.underlying44 rfl rfl ?_)
  intro w2 hit hb
  have HI2 := Lib.hid hit
  have HS2 := Lib.hid (show Below w1.heap.size w1 w2 from hb)
  have HB2 := Lib.hid (HB1.out.trans (HS2.out.mono HB1.out.size))
  have HX2 := Lib.hid (HX1.out.after HS2.out)
  have HP2 := Lib.hid (HP1.out.after HS2.out)
  clear hb
  clear hit
  go_wp2_with fail
  refine (callsIn_wide.1 (parts_any Fence.wide 1 trivial rfl _ _ _ _)).mono ?_
  rintro e w4 ⟨rfl, rfl⟩
  go_wp2_with fail
  obtain ⟨w3, hw3⟩ : ∃ W, (w2.alloc (.cells #[.slice (some ⟨w1.heap.size, 0, none⟩) 17 17] 44)).alloc (.cells #[.slice (some ⟨bk, ob, none⟩) ln c] 67) = W := ⟨_, rfl⟩
  have hb : Below w2.heap.size w2 w3 := by rw [← hw3]; exact laid2 w2 _ _
  have hs3 : w3.heap.size = w2.heap.size + 2 := by rw [← hw3]; simp
  have hbx : Boxed w3 (w2.heap.size + 1) 67 (.slice (some ⟨bk, ob, none⟩) ln c) := by
    have h := HasCells.new (w2.alloc (.cells #[.slice (some ⟨w1.heap.size, 0, none⟩) 17 17] 44)) [.slice (some ⟨bk, ob, none⟩) ln c] 67
    rw [World.size_alloc] at h
    rw [← hw3]
    exact h
  have hiv : HasCells w3 w2.heap.size [.slice (some ⟨w1.heap.size, 0, none⟩) 17 17] 44 := by rw [← hw3]; exact (HasCells.new w2 [.slice (some ⟨w1.heap.size, 0, none⟩) 17 17] 44).alloc _
  rw [hw3]
  have HI3 := Lib.hid (HI2.out.after hb)
  have HS3 := Lib.hid (show Below w2.heap.size w2 w3 from hb)
  have HB3 := Lib.hid (HB2.out.trans (HS3.out.mono HB2.out.size))
  have HX3 := Lib.hid (HX2.out.after HS3.out)
  have HP3 := Lib.hid (HP2.out.after HS3.out)
  clear hb
  have n1 : w.heap.size + 1 < w1.heap.size := HP1.out.lt
  have n2 : w1.heap.size < w2.heap.size := HI2.out.lt
  have n3 : w2.heap.size + 1 < w3.heap.size := by omega
  have hI0 : BrI f ps d w w1.heap.size w2.heap.size w3.heap.size (([] : List ElP).map Prod.fst) w3 ∧ Hid ((([] : List ElP).map Prod.fst) = (partsP ps d).take ([] : List ElP).length) :=
    ⟨⟨fun _ => False, .slice none 0 0, .slice none 0 0, [], List.replicate 17 (Item.none, .slice none 0 0), KidsAt.start _ _ _ _, HX3.out, HP3.out, hiv, HI3.out, by rw [show (([] : List ElP).map Prod.fst) = [] from rfl, itemsAt_nil]; rfl, fun q hq => by rw [List.eq_of_mem_replicate hq]; exact ReadsIn.nil _ _, HB3.out, Nat.le_refl _⟩, Lib.hid rfl⟩
  have HI0 := Lib.hid hI0
  have HBX := Lib.hid hbx
  have HSG := Lib.hid (HSEG.out w3 HB3.out)
  have hbk2 := hbk
  clear hw3 hiv hI0 hs3 hbx HX1 HX2 HX3 HP1 HP2 HP3 HI2 HI3 hHeld
  refine (wpIn_wide (n := 100)).1 ?_
  refine wpIn_rangeFunc_X rfl (by omega) (gf := 92) (lb := #[.pointer (some ⟨w2.heap.size + 1, 0, none⟩)]) rfl trivial (enters_of Tryz.func92 (by kernel_rfl) rfl)
    (encs := encP) (Step := StepG (w2.heap.size + 1)) (Good := GoodG (partsP ps d) bk) (Kp := KeepG bk (w2.heap.size + 1)) (S := fun xs => xs.map Prod.fst = partsP ps d) (Sp := fun _ => True) (w0 := w3)
    (fun l J Jx W hW hJs _ hY h0 => (parts_body _ (by omega) l (w2.heap.size + 1) bk (partsP ps d) HPO.out (by omega) J Jx hJs hY _ W ((hW.block _ (by omega)).trans HBX.out) (HSG.out.kept (hW.block bk (by have := HB3.out.size; omega))) HFL.out h0).mono (fun e W' ⟨h1, h2⟩ => ⟨h1, h2.imp id (fun ⟨pre, h⟩ => ⟨pre, trivial, h⟩)⟩))
    (fun h k => ⟨k.1.trans h.1, k.2.trans h.2⟩) (fun W l o o' hl _ _ _ => ⟨World.putObj_heap_other (by have := HB3.out.size; omega), World.putObj_heap_other (by omega)⟩) (Below.refl _ _) (fun _ => rfl)
    (fun A B k o hst hk hA _ => (hst.1.block k (Array.getElem?_eq_some_iff.1 hA).1 (fun e => by cases e; omega)).trans hA)
    (fun pre W => (BrI f ps d w w1.heap.size w2.heap.size w3.heap.size (pre.map Prod.fst) W ∧ Hid (pre.map Prod.fst = (partsP ps d).take pre.length)))
    (fun _ _ _ => False)
    (fun pre x a' W => ∃ p m c9, x.2 = .slice p m c9 ∧ a' = { tmps := #[.slice (some ⟨bk, ob, none⟩) ln c, undef, .pointer none, .pointer (some ⟨w.heap.size + 1, 0, none⟩), .func (.func 54) #[] #[], .int .i64 0, undef, .pointer (some ⟨w2.heap.size, 0, none⟩), .int .i64 x.1.1, x.2, .agg #[.bool false, .string ⟨#[]⟩, .slice none 0 0, .string ⟨#[]⟩, .slice none 0 0, .slice none 0 0], .pointer (some ⟨w.heap.size, 0, none⟩), .slice (some ⟨bk, ob, none⟩) ln c, .pointer (some ⟨bk, ob, none⟩), .pointer (some ⟨bk, ob, none⟩), .string ⟨pt.toArray⟩, .slice (some ⟨bk, ob, none⟩) ln c, .slice (some ⟨bk, ob, none⟩) ln c, .int .i64 ln, .int .i64 l1, .pointer (some ⟨bk, ob + l1 * 2, none⟩), .pointer (some ⟨bk, ob + l1 * 2, none⟩), .string ⟨pz.toArray⟩, .int .i64 0, .slice (some ⟨w1.heap.size, 0, none⟩) 17 17, .slice (some ⟨bk, ob, none⟩) ln c, .func (.func 92) #[] #[.pointer (some ⟨w2.heap.size + 1, 0, none⟩)], .int .i64 x.1.1, x.2, undef, undef, undef, undef, undef, undef, undef, undef, undef, undef, undef, undef, undef, undef, undef, undef, undef, undef, undef, undef, undef, undef, undef, undef, undef, undef, undef, undef, .bool false, .slice (some ⟨bk, ob, none⟩) ln c, .int .i64 ln, .bool false, undef, undef, undef, undef, undef, undef, undef, undef, undef, undef, undef, undef, undef, undef, undef, undef, .bool false, .int .i64 0, .bool false, undef, undef, undef, undef, undef, undef, undef, undef, undef, undef, undef, undef, undef, undef, undef, undef, undef, undef, undef, undef, undef, undef, undef, undef, undef, undef, undef, undef, undef, undef, undef, undef, undef], defers := [] } ∧ (partsP ps d)[pre.length]? = some x.1 ∧ SegAt bk W x.2 x.1.2 ∧ (BrI f ps d w w1.heap.size w2.heap.size w3.heap.size (pre.map Prod.fst) W ∧ Hid (pre.map Prod.fst = (partsP ps d).take pre.length)))
    ?own (fun _ _ _ _ _ h _ _ => h.elim) ?ownx (fun pre A B ⟨h1, h2⟩ hst => ⟨h1.grown hst.1 n1 n2 (Nat.lt_succ_self _) (by omega) (fun r e => by cases e; exact .inl rfl), h2⟩) (fun _ _ _ _ h _ => h.elim) HI0.out ?assign ?body ?done (fun _ _ _ _ _ _ h => h.elim)
  case own =>
    rintro pre W1 W2 row ⟨h1, h2⟩ hg hr
    exact ⟨h1.grown hg n1 n2 (Nat.lt_succ_self _) (by omega) (fun r e => .inr ⟨by have := (hr r e).1; have := HB3.out.size; omega, (hr r e).2⟩), h2⟩
  case ownx =>
    rintro pre x a' _ W1 W2 row ⟨p, m, c9, e1, e2, e3, e4, h1, h2⟩ hg hr
    refine ⟨p, m, c9, e1, e2, e3, e4.kept (hg.block bk ?_ (fun e => by have := (hr bk e.symm).1; have := HB3.out.size; omega)), h1.grown hg n1 n2 (Nat.lt_succ_self _) (by omega) (fun r e => .inr ⟨by have := (hr r e).1; have := HB3.out.size; omega, (hr r e).2⟩), h2⟩
    obtain ⟨_, _, _, _, _, _, _, _, _, _, _, _, hbw, _⟩ := h1
    have := hbw.size
    omega
  case assign =>
    rintro l pre ⟨⟨h, m⟩, v9⟩ Wa Wb K ⟨h1, h2⟩ hst ⟨g1, g2⟩ hK
    obtain ⟨p, c9, hv9⟩ := SegAt.form g2
    dsimp only at hv9
    subst hv9
    have h1b := h1.grown hst.1 n1 n2 (Nat.lt_succ_self _) (by omega) (fun r e => by cases e; exact .inl rfl)
    simp only [encP]
    have HK := Lib.hid hK
    have H1 := Lib.hid h1b
    have G1 := Lib.hid g1
    have G2 := Lib.hid g2
    clear hK h1 h1b g1 g2 hst
    gi_wp2
    exact HK.out _ _ (KeepsFrom.refl _ _) ⟨rfl, rfl⟩ ⟨_, _, _, rfl, rfl, G1.out, G2.out, H1.out, h2⟩
  case body =>
    rintro l pre ⟨⟨h, m⟩, v9⟩ a' W hl - ⟨p9, m9, c9, hv9, rfl, hsx, hsg, hI, hpre⟩
    dsimp only at hv9 hsx hsg
    have hs := HPS.out (h, m) (List.mem_of_getElem? hsx)
    have hpl := (List.getElem?_eq_some_iff.1 hsx).1
    have hp17 := parts_len ps d
    have hpre1 : ∀ (m0 : List PairD) (v0 : Value), m = m0 → (pre ++ [(((h, m0), v0) : ElP)]).map Prod.fst = (partsP ps d).take (pre ++ [(((h, m0), v0) : ElP)]).length := by
      rintro m0 v0 rfl
      rw [List.map_append, hpre.out, List.length_append]
      show _ = (partsP ps d).take (pre.length + 1)
      rw [List.take_add_one, hsx]
      rfl
    have hmp : ∀ (m0 : List PairD) (v0 : Value), m = m0 → (pre ++ [(((h, m0), v0) : ElP)]).map Prod.fst = pre.map Prod.fst ++ [(h, m0)] := fun m0 v0 _ => by rw [List.map_append]; rfl
    have HPRE1 := Lib.hid hpre1
    have HMP := Lib.hid hmp
    obtain ⟨p0, hp0⟩ : ∃ p, pre.map Prod.fst = p := ⟨_, rfl⟩
    have hp0l : p0.length = pre.length := by rw [← hp0, List.length_map]
    rw [hp0] at hI HMP
    obtain ⟨A, ul, un, PP, its0, hk, hx, hp, hiv, hIt, hm, hrd, hb, hK⟩ := hI
    have hil : its0.length = 17 := by
      have := congrArg List.length hm
      rw [List.length_map, itemsAt_length] at this
      exact this
    obtain ⟨p8, c8, hv8, hc8, hor⟩ := hsg
    rw [hv8] at hv9 ⊢
    cases hv9
    have HKA := Lib.hid hk
    have HXA := Lib.hid hx
    have HPA := Lib.hid hp
    have HIV := Lib.hid hiv
    have HIT := Lib.hid hIt
    have HRD := Lib.hid hrd
    have HBA := Lib.hid hb
    have HM := Lib.hid hm
    have HIL := Lib.hid hil
    have hKs := hK
    clear hpre hpre1 hmp hp0 hk hx hp hiv hIt hm hrd hb hK hil HI0 HBX HSG hl
    dsimp only at hs
    rcases hs with ⟨h16, hm1⟩ | ⟨hlt, x, m1, hhv, hm1⟩
    · subst h16
      rw [hm1] at hor hc8 ⊢
      obtain ⟨o9, rfl, hbk9, hcl⟩ := hor.resolve_left (by simp)
      have z9 := (hcl 0 _ rfl).2
      rw [Nat.zero_mul, Nat.add_zero] at z9
      dsimp only at z9
      obtain ⟨en, hen⟩ : ∃ e, endingP ps d = e := ⟨_, rfl⟩
      rw [hen] at z9 hm1 ⊢
      have HEN := Lib.hid hen
      have HZ9 := Lib.hid z9
      have hmb : bk < W.heap.size := hbk9
      rw [show ((16 : Nat) : Int) = 16 from rfl]
      clear hen hcl hor hsx z9
      gi_wp2
      refine wpIn_round_held (fun W' => W'.cell? ⟨w2.heap.size, 0, none⟩ = some (.slice (some ⟨w1.heap.size, 0, none⟩) 17 17) ∧ W'.cell? ⟨bk, o9 + 1, none⟩ = some (.string ⟨en.toArray⟩)) (by kernel_rfl) (by kernel_rfl) (fun ⟨_, _, h⟩ => h.elim) (⟨(HIV.out.after ((Below.refl W.heap.size W).drew)).cell (j := 0) rfl, (World.cell?_of_block (a := ⟨bk, o9 + 1, none⟩) (((Below.refl W.heap.size W).drew).block bk hmb)).trans HZ9.out⟩) (fun hHeld => ?_)
      refine wpAnyH_take (i := 0) (v := ?_) rfl (by kernel_rfl) (by kernel_rfl) (by kernel_rfl) (fun _ _ _ h => h) (.inl ⟨by rfl, ?_⟩) (by assumption) ?_
      rotate_left 1
      · intro w0 hSw
        obtain ⟨z0, z1⟩ := hSw
        go_simp <;> with_reducible rfl
      try simp only [Act.put, zq1, zq2, zq4, zq5, zq6]
      refine wpAnyH_take (i := 1) (v := ?_) rfl (by kernel_rfl) (by kernel_rfl) (by kernel_rfl) (fun _ _ _ h => h) (.inl ⟨by rfl, ?_⟩) (by assumption) ?_
      rotate_left 1
      · intro w0 hSw
        go_simp <;> with_reducible rfl
      try simp only [Act.put, zq1, zq2, zq3, zq4, zq5, zq6]
      refine wpAnyH_take (i := 2) (v := ?_) rfl (by kernel_rfl) (by kernel_rfl) (by kernel_rfl) (fun _ _ _ h => h) (.inl ⟨by rfl, ?_⟩) (by assumption) ?_
      rotate_left 1
      · intro w0 hSw
        go_simp <;> with_reducible rfl
      try simp only [Act.put, zq1, zq2, zq3, zq4, zq5, zq6]
      refine wpAnyH_take (i := 3) (v := ?_) rfl (by kernel_rfl) (by kernel_rfl) (by kernel_rfl) (fun _ _ _ h => h) (.inl ⟨by rfl, ?_⟩) (by assumption) ?_
      rotate_left 1
      · intro w0 hSw
        go_simp <;> with_reducible rfl
      try simp only [Act.put, zq1, zq2, zq3, zq4, zq5, zq6]
      refine wpAnyH_take (i := 4) (v := ?_) rfl (by kernel_rfl) (by kernel_rfl) (by kernel_rfl) (fun _ _ _ h => h) (.inl ⟨by rfl, ?_⟩) (by assumption) ?_
      rotate_left 1
      · intro w0 hSw
        go_simp <;> with_reducible rfl
      try simp only [Act.put, zq1, zq2, zq3, zq4, zq5, zq6]
      refine wpAnyH_take (i := 5) (v := ?_) rfl (by kernel_rfl) (by kernel_rfl) (by kernel_rfl) (fun _ _ _ h => h) (.inl ⟨by rfl, ?_⟩) (by assumption) ?_
      rotate_left 1
      · intro w0 hSw
        obtain ⟨z0, z1⟩ := hSw
        go_simp <;> with_reducible rfl
      try simp only [Act.put, zq1, zq2, zq3, zq4, zq5, zq6]
      refine wpAnyH_ready (rs := [6]) (by kernel_rfl) (by simp) ?_
      refine AllReadyH.cons rfl (fun K hK => ?_) AllReadyH.nil
      go_simp
      go_at_call 26
      refine (rlpText_any en _).mono ?_
      rintro e w5 ⟨rfl, hb5⟩
      have HB5 := Lib.hid (show Below W.heap.size W w5 from (Below.refl _ _).drew.trans hb5)
      clear hb5
      refine hK.out _ _ (⟨(HIV.out.after HB5.out).cell (j := 0) rfl, (World.cell?_of_block (a := ⟨bk, o9 + 1, none⟩) (HB5.out.block bk hmb)).trans HZ9.out⟩) (fun hHeld => ?_)
      clear hK K
      try simp only [Act.put, zq1, zq2, zq3, zq4, zq5, zq6]
      refine wpAnyH_take (i := 7) (v := ?_) rfl (by kernel_rfl) (by kernel_rfl) (by kernel_rfl) (fun _ _ _ h => h) (.inl ⟨by rfl, ?_⟩) (by assumption) ?_
      rotate_left 1
      · intro w0 hSw
        go_simp <;> with_reducible rfl
      try simp only [Act.put, zq1, zq2, zq3, zq4, zq5, zq6]
      refine wpAnyH_ready (rs := [8]) (by kernel_rfl) (by simp) ?_
      refine AllReadyH.cons rfl (fun K hK => ?_) AllReadyH.nil
      go_simp
      obtain ⟨_, _, _, e0, e1, e2⟩ := items_cells (k := 16) (HIT.out.after HB5.out) (by rw [HIL.out]; omega)
      simp only [Nat.reduceMul, Nat.reduceAdd] at e0 e1 e2
      have f0 := (HIT.out.after HB5.out).frozen 48
      have f1 := (HIT.out.after HB5.out).frozen 49
      have f2 := (HIT.out.after HB5.out).frozen 50
      go_simp
      obtain ⟨w6, hw6⟩ : ∃ W6, (((w5.setCell ⟨w1.heap.size, 48, none⟩ (.bool false)).setCell ⟨w1.heap.size, 49, none⟩ (.string ⟨en.toArray⟩)).setCell ⟨w1.heap.size, 50, none⟩ (.slice none 0 0)) = W6 := ⟨_, rfl⟩
      rw [hw6]
      have hbl : ∀ g, g ≠ w1.heap.size → w6.heap[g]? = w5.heap[g]? := fun g hg => by
        rw [← hw6]
        exact (Below.heap_setCell _ ⟨w1.heap.size, 50, none⟩ _ g hg).trans ((Below.heap_setCell _ ⟨w1.heap.size, 49, none⟩ _ g hg).trans (Below.heap_setCell _ ⟨w1.heap.size, 48, none⟩ _ g hg))
      have hbl2 : ∀ g, g < W.heap.size → g ≠ w1.heap.size → w6.heap[g]? = W.heap[g]? := fun g hg hne => (hbl g hne).trans (HB5.out.block g hg)
      have HBL := Lib.hid hbl2
      have hsz6 : W.heap.size ≤ w6.heap.size := by rw [← hw6]; simpa using HB5.out.size
      have HIT6 := Lib.hid (show HasCells w6 w1.heap.size (itemCells (its0.set 16 (txtI en, .slice none 0 0))) 46 from by rw [← hw6]; exact items_set (HIT.out.after HB5.out) 16 (txtI en) (.slice none 0 0))
      have HB6 := Lib.hid (show Below w.heap.size w w6 from by rw [← hw6]; exact three_low (HBA.out.trans (HB5.out.mono HBA.out.size)) (by omega) 48 49 50 _ _ _)
      clear hbl hbl2 hw6 e0 e1 e2 f0 f1 f2
      refine hK.out _ _ (⟨HIV.out.kept (HBL.out _ HIV.out.lt (by omega)) |>.cell (j := 0) rfl, (World.cell?_of_block (a := ⟨bk, o9 + 1, none⟩) (HBL.out bk hmb (by omega))).trans HZ9.out⟩) (fun hHeld => ?_)
      clear hK K
      try simp only [Act.put, zq1, zq2, zq3, zq4, zq5, zq6]
      refine wpAnyH_done (by kernel_rfl) ?_ 0
      gi_wp2
      have hbx9 : w2.heap.size + 1 < W.heap.size := by omega
      refine ⟨⟨hsz6, fun k o hk ho _ => (HBL.out k (Array.getElem?_eq_some_iff.1 ho).1 (by omega)).trans ho⟩, ⟨HBL.out bk hmb (by omega), HBL.out _ hbx9 (by omega)⟩, ⟨A, ul, un, PP, its0.set 16 (txtI en, .slice none 0 0), ?_, HXA.out.kept (HBL.out _ HXA.out.lt (by omega)), HPA.out.kept (HBL.out _ HPA.out.lt (by omega)), HIV.out.kept (HBL.out _ HIV.out.lt (by omega)), HIT6.out, ?_, ?_, HB6.out, Nat.le_trans hKs hsz6⟩, Lib.hid (HPRE1.out _ _ hm1)⟩
      · rw [HMP.out _ _ hm1, kidsOf_snoc16]
        exact HKA.out.kept (fun g h1 h2 => HBL.out g h2 (by omega)) hsz6
      · rw [HMP.out _ _ hm1, itemsAt_snoc f ps d p0 _ (Nat.le_refl 16), List.map_set, HM.out]
        show _ = (itemsAt f ps d p0).set 16 (txtI (endingP ps d))
        rw [HEN.out]
      · intro q hq
        rcases mem_set hq with rfl | hq
        · exact ReadsIn.nil _ _
        · exact ReadsIn.kept (HRD.out q hq) (fun g u o hA hc => (World.cell?_of_block (a := ⟨g, o, none⟩) (HBL.out g (HKA.out.foot g hA).2.1 (by have := (HKA.out.foot g hA).1; omega))).trans hc) (fun _ h => h)
    · obtain ⟨o9, rfl, hbk9, hcl⟩ := hor.resolve_left (by rw [hm1]; simp)
      have z9 := (hcl 0 (cutQ d x) (by rw [hm1]; rfl)).1
      rw [Nat.zero_mul, Nat.add_zero] at z9
      have hph := HHM.out h x m1 hhv x List.mem_cons_self
      obtain ⟨ph, hph0⟩ : ∃ p, (pth x).drop d = p := ⟨_, rfl⟩
      rw [hph0] at hph
      rw [show (cutQ d x).1 = ph from hph0] at z9
      obtain ⟨b0, hb0⟩ : ∃ b, UInt8.ofNat h = b := ⟨_, rfl⟩
      rw [hb0] at hph
      have HXT := Lib.hid (drop_one hph)
      have hpl1 : 1 ≤ ph.length := by rw [hph]; simp
      have hsz : (⟨ph.toArray⟩ : ByteArray).size = ph.length := rfl
      obtain ⟨phl, hphl⟩ : ∃ n, ph.length = n := ⟨_, rfl⟩
      rw [hphl] at hsz hpl1
      have hseg : Pairs W (.slice (some ⟨bk, o9, none⟩) m.length c9) m := ⟨_, c9, rfl, hc8, .inr ⟨bk, o9, rfl, hbk9, hcl⟩⟩
      have hmc : m.map (cutF 1) = (x :: m1).map (cutQ (d + 1)) := by rw [hm1, List.map_map]; exact List.map_congr_left fun y _ => cutQ_cut d 1 y
      have hcut : ∀ y ∈ m, 1 ≤ y.1.length := fun y hy => by
        rw [hm1] at hy
        obtain ⟨z, hz, rfl⟩ := List.mem_map.1 hy
        show 1 ≤ ((pth z).drop d).length
        rw [HHM.out h x m1 hhv z hz]
        simp
      have hml2 : m.length ≤ 1000 := by rw [hm1, List.length_map]; exact HHL.out h x m1 hhv
      have HBE := Lib.hid (fun W' (hb : Below W.heap.size W W') => (show Calls Tryz.prog 59 #[.slice (some ⟨bk, o9, none⟩) m.length c9, .int .i64 1] W' (fun e w' => ∃ p c, e = .returned (.slice p m.length c) ∧ OwnF W'.heap.size w' (.slice p m.length c) ((x :: m1).map (cutQ (d + 1))) ∧ Below W'.heap.size W' w') from
        hmc ▸ behind_any m 1 _ W' (hseg.after hb) (by omega) hcut))
      have hml : 0 < m.length := by rw [hm1]; simp
      obtain ⟨ml, hmll⟩ : ∃ n, m.length = n := ⟨_, rfl⟩
      rw [hmll] at hml HBE ⊢
      have HZ9 := Lib.hid z9
      have hmb : bk < W.heap.size := hbk9
      have hkl : (kidsOf ps d p0).length ≤ 1000 := by have := kidsOf_len ps d p0; omega
      have HKL := Lib.hid hkl
      have HM1 := Lib.hid hm1
      have HHV := Lib.hid hhv
      have HB0 := Lib.hid hb0
      have HSX := Lib.hid hlt
      have g1 : (0 : Int) ≤ (h : Int) := by omega
      have g2 : (h : Int) < 17 := by omega
      have g3 : ¬ (h : Int) = 16 := by omega
      have g4 : ((h : Int) == 16) = false := by simp; omega
      have g5 : (1 : Int) ≤ (phl : Int) := by omega
      have g6 : h < 17 := by omega
      clear hor hcl hsx hph hph0 hphl hseg hmc hcut hml2 hmll z9 hm1 hhv hb0 hkl hc8 hv8 hbk9
      gi_wp2
      refine wpIn_round_held (fun W' => W'.cell? ⟨w2.heap.size, 0, none⟩ = some (.slice (some ⟨w1.heap.size, 0, none⟩) 17 17) ∧ W'.cell? ⟨w.heap.size + 1, 0, none⟩ = some (.pointer (some ⟨w.heap.size, 0, none⟩)) ∧ W'.cell? ⟨bk, o9, none⟩ = some (.string ⟨ph.toArray⟩)) (by kernel_rfl) (by kernel_rfl) (fun ⟨_, _, h⟩ => h.elim) (⟨(HIV.out.after ((Below.refl W.heap.size W).drew)).cell (j := 0) rfl, (HPA.out.after ((Below.refl W.heap.size W).drew)).cell (j := 0) rfl, (World.cell?_of_block (a := ⟨bk, o9, none⟩) (((Below.refl W.heap.size W).drew).block bk hmb)).trans HZ9.out⟩) (fun hHeld => ?_)
      refine wpAnyH_take (i := 0) (v := ?_) rfl (by kernel_rfl) (by kernel_rfl) (by kernel_rfl) (fun _ _ _ h => h) (.inl ⟨by rfl, ?_⟩) (by assumption) ?_
      rotate_left 1
      · intro w0 hSw
        obtain ⟨z0, z1, z2⟩ := hSw
        go_simp <;> with_reducible rfl
      try simp only [Act.put, zq1, zq2, zq4, zq5, zq6]
      refine wpAnyH_take (i := 1) (v := ?_) rfl (by kernel_rfl) (by kernel_rfl) (by kernel_rfl) (fun _ _ _ h => h) (.inl ⟨by rfl, ?_⟩) (by assumption) ?_
      rotate_left 1
      · intro w0 hSw
        go_simp <;> with_reducible rfl
      try simp only [Act.put, zq1, zq2, zq3, zq4, zq5, zq6]
      refine wpAnyH_take (i := 2) (v := ?_) rfl (by kernel_rfl) (by kernel_rfl) (by kernel_rfl) (fun _ _ _ h => h) (.inl ⟨by rfl, ?_⟩) (by assumption) ?_
      rotate_left 1
      · intro w0 hSw
        obtain ⟨z0, z1, z2⟩ := hSw
        go_simp <;> with_reducible rfl
      try simp only [Act.put, zq1, zq2, zq3, zq4, zq5, zq6]
      refine wpAnyH_take (i := 3) (v := ?_) rfl (by kernel_rfl) (by kernel_rfl) (by kernel_rfl) (fun _ _ _ h => h) (.inl ⟨by rfl, ?_⟩) (by assumption) ?_
      rotate_left 1
      · intro w0 hSw
        go_simp <;> with_reducible rfl
      try simp only [Act.put, zq1, zq2, zq3, zq4, zq5, zq6]
      refine wpAnyH_take (i := 4) (v := ?_) rfl (by kernel_rfl) (by kernel_rfl) (by kernel_rfl) (fun _ _ _ h => h) (.inl ⟨by rfl, ?_⟩) (by assumption) ?_
      rotate_left 1
      · intro w0 hSw
        go_simp <;> with_reducible rfl
      try simp only [Act.put, zq1, zq2, zq3, zq4, zq5, zq6]
      refine wpAnyH_take (i := 5) (v := ?_) rfl (by kernel_rfl) (by kernel_rfl) (by kernel_rfl) (fun _ _ _ h => h) (.inl ⟨by rfl, ?_⟩) (by assumption) ?_
      rotate_left 1
      · intro w0 hSw
        go_simp <;> with_reducible rfl
      try simp only [Act.put, zq1, zq2, zq3, zq4, zq5, zq6]
      refine wpAnyH_take (i := 6) (v := ?_) rfl (by kernel_rfl) (by kernel_rfl) (by kernel_rfl) (fun _ _ _ h => h) (.inl ⟨by rfl, ?_⟩) (by assumption) ?_
      rotate_left 1
      · intro w0 hSw
        obtain ⟨z0, z1, z2⟩ := hSw
        go_simp <;> with_reducible rfl
      try simp only [Act.put, zq1, zq2, zq3, zq4, zq5, zq6]
      refine wpAnyH_take (i := 7) (v := ?_) rfl (by kernel_rfl) (by kernel_rfl) (by kernel_rfl) (fun _ _ _ h => h) (.inl ⟨by rfl, ?_⟩) (by assumption) ?_
      rotate_left 1
      · intro w0 hSw
        go_simp <;> with_reducible rfl
      try simp only [Act.put, zq1, zq2, zq3, zq4, zq5, zq6]
      refine wpAnyH_take (i := 8) (v := ?_) rfl (by kernel_rfl) (by kernel_rfl) (by kernel_rfl) (fun _ _ _ h => h) (.inl ⟨by rfl, ?_⟩) (by assumption) ?_
      rotate_left 1
      · intro w0 hSw
        go_simp <;> with_reducible rfl
      try simp only [Act.put, zq1, zq2, zq3, zq4, zq5, zq6]
      refine wpAnyH_ready (rs := [9]) (by kernel_rfl) (by simp) ?_
      refine AllReadyH.cons rfl (fun K hK => ?_) AllReadyH.nil
      go_simp
      go_at_call 59
      refine (HBE.out _ ((Below.refl W.heap.size W).drew)).mono ?_
      rintro e w5 ⟨bp, bc, rfl, hbf, hb5⟩
      have HBF := Lib.hid hbf.pairs
      have HB5 := Lib.hid (show Below W.heap.size W w5 from (Below.refl _ _).drew.trans hb5)
      clear hb5 hbf
      refine hK.out _ _ (⟨(HIV.out.after HB5.out).cell (j := 0) rfl, (HPA.out.after HB5.out).cell (j := 0) rfl, (World.cell?_of_block (a := ⟨bk, o9, none⟩) (HB5.out.block bk hmb)).trans HZ9.out⟩) (fun hHeld => ?_)
      clear hK K
      try simp only [Act.put, zq1, zq2, zq3, zq4, zq5, zq6]
      refine wpAnyH_ready (rs := [10]) (by kernel_rfl) (by simp) ?_
      refine AllReadyH.cons rfl (fun K hK => ?_) AllReadyH.nil
      go_simp
      go_at_call 34
      refine (HGR.out h hlt x m1 HHV.out _ w5 (HBA.out.trans (HB5.out.mono HBA.out.size)) HBF.out).mono ?_
      rintro e w6 ⟨gy, rfl, hkid, hb6⟩
      have HKID := Lib.hid hkid
      have HS6 := Lib.hid hb6
      have HB6 := Lib.hid (show Below W.heap.size W w6 from HB5.out.trans (hb6.mono HB5.out.size))
      clear hb6 hkid
      refine hK.out _ _ (⟨(HIV.out.after HB6.out).cell (j := 0) rfl, (HPA.out.after HB6.out).cell (j := 0) rfl, (World.cell?_of_block (a := ⟨bk, o9, none⟩) (HB6.out.block bk hmb)).trans HZ9.out⟩) (fun hHeld => ?_)
      clear hK K
      try simp only [Act.put, zq1, zq2, zq3, zq4, zq5, zq6]
      refine wpAnyH_ready (rs := [11]) (by kernel_rfl) (by simp) ?_
      refine AllReadyH.cons rfl (fun K hK => ?_) AllReadyH.nil
      go_simp
      obtain ⟨hgA, yu, yl, yn, hyc, hyr⟩ := HKID.out.opened
      obtain ⟨rp, rn, rc, hrv, hrr⟩ := refV_is f (x :: m1) (d + 1) yu hyr
      obtain ⟨yp, yc, hyf⟩ := ReadsIn.form hyr
      obtain ⟨rx, hrx⟩ : ∃ y, refI keccakL (nodeP keccakL f (x :: m1) (d + 1)) = y := ⟨_, rfl⟩
      rw [hrx] at hrv hrr
      have hk5 := HKA.out.after HB5.out
      have hk6 := HKA.out.after HB6.out
      have s5 := HB5.out.size
      have s6 := HS6.out.size
      rw [HXT.out]
      go_at_call 58
      refine (refer_any w.heap.size w.heap.size gy [b0] _ _ _ _ ul un yl yn yu _ _ _ _ PP w6 (HXA.out.after HB6.out) hyc hk6.l hk6.n (by omega) hk6.sep ⟨fun e => by have := HKA.out.lo _ e; omega, fun e => by have := (hk5.l.lt _ e).2; omega⟩ ⟨fun e => by have := HKA.out.no _ e; omega, fun e => by have := (hk5.n.lt _ e).2; omega⟩ (Nat.le_refl _) (by rw [List.length_map]; exact HKL.out) (by rw [hk6.len, List.length_map]; exact HKL.out) (HYS.out h hlt x m1 HHV.out) (fun W2 hb2 => HKT.out W2 ((HBA.out.trans (HB6.out.mono HBA.out.size)).trans hb2)) ⟨_, _, _, hyf⟩).mono ?_
      rintro e w7 ⟨he, ul2, un2, h1, h2, h3, h4, h5, h6, h7, h8, h9, h10, h11, h12⟩
      rw [hrv] at he
      subst he
      have HX7 := Lib.hid h1
      have hlow : ∀ g, g < w3.heap.size → g ≠ w.heap.size → w7.heap[g]? = W.heap[g]? := fun g hg hne => (h7 g (by omega) hne (fun e => by have := HKA.out.lo _ e; omega) (fun e => by have := HKA.out.no _ e; omega)).trans (HB6.out.block g (by omega))
      have HLOW := Lib.hid hlow
      have HK7 := Lib.hid (hk5.more (gx := w.heap.size) HS6.out (by omega) (by omega) HKID.out h3 h4 h6 h7 h8 h9 h10)
      have HB7 := Lib.hid ((HBA.out.trans (HB6.out.mono HBA.out.size)).trans h5)
      have HRD7 := Lib.hid (fun q (hq : q ∈ its0) => (show ReadsIn w7 (fun k => A k ∨ (w5.heap.size ≤ k ∧ k < w6.heap.size)) q.2 q.1.list from ReadsIn.kept (HRD.out q hq) (fun k u o hk hc => by
        obtain ⟨f1, f2, f3, f4⟩ := HKA.out.foot k hk
        exact (World.cell?_of_block (a := ⟨k, o, none⟩) ((h7 k (by omega) (by omega) f3 f4).trans (HB6.out.block k f2))).trans hc) (fun _ h => .inl h)))
      have HRN := Lib.hid (show ReadsIn w7 (fun k => A k ∨ (w5.heap.size ≤ k ∧ k < w6.heap.size)) (.slice rp rn rc) rx.list from ReadsIn.kept hrr (fun k u o hk hc => (World.cell?_of_block (a := ⟨k, o, none⟩) (h7 k hk.2 (by omega) (fun e => by have := (hk5.l.lt _ e).2; omega) (fun e => by have := (hk5.n.lt _ e).2; omega))).trans hc) (fun _ h => .inr h))
      have HKF := Lib.hid ((keepsFrom_below HB6.out : KeepsFrom w3.heap.size W w6).trans (refer_keeps hk6.l hk6.n (show w.heap.size < w3.heap.size by omega) h6 h7))
      have s7 : w6.heap.size ≤ w7.heap.size := h6
      have HRX := Lib.hid hrx
      clear h1 h2 h3 h4 h5 h6 h7 h8 h9 h10 h11 h12 hgA hyc hyr hrv hrr hyf hrx hk5 hk6 hlow
      refine hK.out _ _ (⟨(HIV.out.kept (HLOW.out w2.heap.size (by omega) (by omega))).cell (j := 0) rfl, (HPA.out.kept (HLOW.out (w.heap.size + 1) (by omega) (by omega))).cell (j := 0) rfl, (World.cell?_of_block (a := ⟨bk, o9, none⟩) (HLOW.out bk (by omega) (by omega))).trans HZ9.out⟩) (fun hHeld => ?_)
      clear hK K
      try simp only [Act.put, zq1, zq2, zq3, zq4, zq5, zq6]
      refine wpAnyH_take (i := 12) (v := ?_) rfl (by kernel_rfl) (by kernel_rfl) (by kernel_rfl) (fun _ _ _ h => h) (.inl ⟨by rfl, ?_⟩) (by assumption) ?_
      rotate_left 1
      · intro w0 hSw
        go_simp <;> with_reducible rfl
      try simp only [Act.put, zq1, zq2, zq3, zq4, zq5, zq6]
      have hit7 : HasCells w7 w1.heap.size (itemCells its0) 46 := HIT.out.kept (HLOW.out _ (by omega) (by omega))
      have HIT7 := Lib.hid hit7
      obtain ⟨_, _, _, e0, e1, e2⟩ := items_cells (k := h) hit7 (by rw [HIL.out]; omega)
      have f0 := hit7.frozen (h * 3)
      have f1 := hit7.frozen (h * 3 + 1)
      have f2 := hit7.frozen (h * 3 + 2)
      clear hit7
      refine wpAnyH_ready (rs := [13]) (by kernel_rfl) (by simp) ?_
      refine AllReadyH.cons rfl (fun K hK => ?_) AllReadyH.nil
      go_simp
      obtain ⟨w8, hw8⟩ : ∃ W8, ((w7.setCell ⟨w1.heap.size, h * 3, none⟩ (.bool rx.isList)).setCell ⟨w1.heap.size, h * 3 + 1, none⟩ (.string ⟨rx.text.toArray⟩)).setCell ⟨w1.heap.size, h * 3 + 2, none⟩ (.slice rp rn rc) = W8 := ⟨_, rfl⟩
      rw [hw8]
      have HBL := Lib.hid (fun g (hg : g ≠ w1.heap.size) => (show w8.heap[g]? = w7.heap[g]? from by
        rw [← hw8]
        exact (Below.heap_setCell _ ⟨w1.heap.size, h * 3 + 2, none⟩ _ g hg).trans ((Below.heap_setCell _ ⟨w1.heap.size, h * 3 + 1, none⟩ _ g hg).trans (Below.heap_setCell _ ⟨w1.heap.size, h * 3, none⟩ _ g hg))))
      have hsz8 : w7.heap.size ≤ w8.heap.size := by rw [← hw8]; simp
      have HLO8 := Lib.hid (fun g (h1 : g < w3.heap.size) (h2 : g ≠ w.heap.size ∧ g ≠ w1.heap.size) => (HBL.out g h2.2).trans (HLOW.out g h1 h2.1))
      have HIT8 := Lib.hid (show HasCells w8 w1.heap.size (itemCells (its0.set h (rx, .slice rp rn rc))) 46 from by rw [← hw8]; exact items_set HIT7.out h rx (.slice rp rn rc))
      have HB8 := Lib.hid (show Below w.heap.size w w8 from by rw [← hw8]; exact three_low HB7.out (by omega) _ _ _ _ _ _)
      clear hw8 e0 e1 e2 f0 f1 f2
      refine hK.out _ _ (⟨(HIV.out.kept (HLO8.out w2.heap.size (by omega) (by omega))).cell (j := 0) rfl, (HPA.out.kept (HLO8.out (w.heap.size + 1) (by omega) (by omega))).cell (j := 0) rfl, (World.cell?_of_block (a := ⟨bk, o9, none⟩) (HLO8.out bk (by omega) (by omega))).trans HZ9.out⟩) (fun hHeld => ?_)
      clear hK K
      try simp only [Act.put, zq1, zq2, zq3, zq4, zq5, zq6]
      refine wpAnyH_done (by kernel_rfl) ?_ 0
      gi_wp2
      have htg : tgtP f ps d h = rx := by unfold tgtP childP; rw [if_neg (by omega), HHV.out]; exact HRX.out
      have hs6 := HB6.out.size
      refine ⟨HKF.out.trans ⟨hsz8, fun k o hk ho _ => (HBL.out k (by omega)).trans ho⟩, ⟨HLO8.out bk (by omega) (by omega), HLO8.out _ (by omega) (by omega)⟩, ⟨(fun k => A k ∨ (w5.heap.size ≤ k ∧ k < w6.heap.size)), ul2, un2, PP ++ [gy], its0.set h (rx, .slice rp rn rc), ?_, HX7.out.kept (HBL.out _ (by omega)), HPA.out.kept (HLO8.out _ (by omega) (by omega)), HIV.out.kept (HLO8.out _ (by omega) (by omega)), HIT8.out, ?_, ?_, HB8.out, by omega⟩, Lib.hid (HPRE1.out m _ rfl)⟩
      · rw [HMP.out m _ rfl, kidsOf_snoc ps d p0 h m hlt, List.map_append, List.map_append, HHV.out, HB0.out]
        exact HK7.out.kept (fun g h1 _ => HBL.out g (by omega)) hsz8
      · rw [HMP.out m _ rfl, itemsAt_snoc f ps d p0 (h, m) (by show h ≤ 16; omega), List.map_set, HM.out]
        show _ = (itemsAt f ps d p0).set h (tgtP f ps d h)
        rw [htg]
      · intro q hq
        have key : ∀ (u : Value) (l : List Item), ReadsIn w7 (fun k => A k ∨ (w5.heap.size ≤ k ∧ k < w6.heap.size)) u l → ReadsIn w8 (fun k => A k ∨ (w5.heap.size ≤ k ∧ k < w6.heap.size)) u l := fun u l hr => ReadsIn.kept hr (fun k u o hk hc => (World.cell?_of_block (a := ⟨k, o, none⟩) (HBL.out k (by have := (HK7.out.foot k hk).1; omega))).trans hc) (fun _ h => h)
        rcases mem_set hq with rfl | hq
        · exact key _ _ HRN.out
        · exact key _ _ (HRD7.out q hq)
  case done =>
    rintro D xs w5 hD hxs ⟨hI, hpre⟩ hKD
    rw [hxs] at hI
    obtain ⟨A, ul, un, PP, its0, hk, hx, hp, hiv, hIt, hm, hrd, hb, hK5⟩ := hI
    rw [HKP.out] at hk
    rw [HFIN.out] at hm
    have hil : its0.length = 17 := by
      have := congrArg List.length hm
      rw [List.length_map, ← HFIN.out, itemsAt_length] at this
      exact this
    have HR5 := Lib.hid (show RIn w5 (w.heap.size + 1) (.slice (some ⟨w1.heap.size, 0, none⟩) 17 17) its from items_read hIt ⟨by omega, by have := hIt.lt; omega⟩ (fun q hq => ReadsIn.kept (hrd q hq) (fun _ _ _ _ h => h) (fun g hg => ⟨by have := (hk.foot g hg).1; omega, (hk.foot g hg).2.1⟩)) hil hm)
    have HKA := Lib.hid hk
    have HX5 := Lib.hid hx
    have HP5 := Lib.hid hp
    have HIV5 := Lib.hid hiv
    have HB5 := Lib.hid hb
    have HKD := Lib.hid hKD
    clear hk hx hp hiv hIt hm hrd hb hpre hxs HI0 HBX HSG hil hKD HGR HYS HHL HHM HPS HPO HSEG HFL HPL HCM HC HKT HFIN
    gi_wp2
    refine wp_calm2 ?_
    refine wp_region_held_drew (S := (fun W => W.cell? ⟨w.heap.size + 1, 0, none⟩ = some (.pointer (some ⟨w.heap.size, 0, none⟩)) ∧ W.cell? ⟨w2.heap.size, 0, none⟩ = some (.slice (some ⟨w1.heap.size, 0, none⟩) 17 17))) (by kernel_rfl) (⟨(HP5.out.kept rfl : HasCells w5.drew _ _ 41).cell (j := 0) rfl, (HIV5.out.kept rfl : HasCells w5.drew _ _ 44).cell (j := 0) rfl⟩) (fun hHeld => ?_)
    refine wpAnyH_take (i := 0) (v := ?_) rfl (by kernel_rfl) (by kernel_rfl) (by kernel_rfl) (fun _ _ _ h => h) (.inl ⟨by rfl, ?_⟩) (by assumption) ?_
    rotate_left 1
    · intro w0 hSw
      obtain ⟨z0, z1⟩ := hSw
      go_simp <;> with_reducible rfl
    try simp only [Act.put, zq1, zq2, zq4, zq5, zq6]
    refine wpAnyH_take (i := 1) (v := ?_) rfl (by kernel_rfl) (by kernel_rfl) (by kernel_rfl) (fun _ _ _ h => h) (.inl ⟨by rfl, ?_⟩) (by assumption) ?_
    rotate_left 1
    · intro w0 hSw
      obtain ⟨z0, z1⟩ := hSw
      go_simp <;> with_reducible rfl
    try simp only [Act.put, zq1, zq2, zq3, zq4, zq5, zq6]
    refine wpAnyH_ready (rs := [2]) (by kernel_rfl) (by simp) ?_
    refine AllReadyH.cons rfl (fun K hK => ?_) AllReadyH.nil
    go_simp
    go_at_call 57
    refine (list_any _ _ _ _).mono ?_
    rintro e w7 ⟨rfl, hb⟩
    have hb7 := (Below.refl w5.heap.size w5).drew.trans hb
    have HR7 := Lib.hid (RIn.below HR5.out hb7)
    have HK7 := Lib.hid (HKA.out.after hb7)
    have HIV7 := Lib.hid (HIV5.out.after hb7)
    have HKD7 := Lib.hid ((hb7.block D (Array.getElem?_eq_some_iff.1 HKD.out).1).trans HKD.out)
    clear hb7
    have HS7 := Lib.hid (show Below w5.heap.size w5 w7 from ((Below.refl _ _).drew.trans hb))
    have HB7 := Lib.hid (HB5.out.trans (HS7.out.mono HB5.out.size))
    have HX7 := Lib.hid (HX5.out.after HS7.out)
    have HP7 := Lib.hid (HP5.out.after HS7.out)
    clear hb
    refine hK.out _ _ (⟨HP7.out.cell (j := 0) rfl, HIV7.out.cell (j := 0) rfl⟩) (fun hHeld => ?_)
    clear hK K
    try simp only [Act.put, zq1, zq2, zq3, zq4, zq5, zq6]
    refine wpAnyH_take (i := 3) (v := ?_) rfl (by kernel_rfl) (by kernel_rfl) (by kernel_rfl) (fun _ _ _ h => h) (.inl ⟨by rfl, ?_⟩) (by assumption) ?_
    rotate_left 1
    · intro w0 hSw
      go_simp <;> with_reducible rfl
    try simp only [Act.put, zq1, zq2, zq3, zq4, zq5, zq6]
    refine wpAnyH_take (i := 4) (v := ?_) rfl (by kernel_rfl) (by kernel_rfl) (by kernel_rfl) (fun _ _ _ h => h) (.inl ⟨by rfl, ?_⟩) (by assumption) ?_
    rotate_left 1
    · intro w0 hSw
      go_simp <;> with_reducible rfl
    try simp only [Act.put, zq1, zq2, zq3, zq4, zq5, zq6]
    refine wpAnyH_ready (rs := [5]) (by kernel_rfl) (by simp) ?_
    refine AllReadyH.cons rfl (fun K hK => ?_) AllReadyH.nil
    go_simp
    have e0 := HX7.out.cell (j := 0) rfl
    have e1 := HX7.out.cell (j := 1) rfl
    have e2 := HX7.out.cell (j := 2) rfl
    have f0 := HX7.out.frozen 0
    have f1 := HX7.out.frozen 1
    have f2 := HX7.out.frozen 2
    go_simp
    obtain ⟨w8, hst⟩ : ∃ W, ((w7.setCell ⟨w.heap.size, 0, none⟩ (.bool true)).setCell ⟨w.heap.size, 1, none⟩ (.string ⟨#[]⟩)).setCell ⟨w.heap.size, 2, none⟩ (.slice (some ⟨w1.heap.size, 0, none⟩) 17 17) = W := ⟨_, rfl⟩
    rw [hst]
    have HX8 := Lib.hid (show HasCells w8 w.heap.size _ 49 from hst ▸ ((HX7.out.set 0 (.bool true)).set 1 (.string ⟨#[]⟩)).set 2 (.slice (some ⟨w1.heap.size, 0, none⟩) 17 17))
    have HP8 := Lib.hid (show HasCells w8 (w.heap.size + 1) _ 41 from hst ▸ ((HP7.out.setOther (by omega) _).setOther (by omega) _).setOther (by omega) _)
    have HB8 := Lib.hid (show Below w.heap.size w w8 from hst ▸ three_low HB7.out (Nat.le_refl _) 0 1 2 _ _ _)
    have HR8 := Lib.hid (show RIn w8 (w.heap.size + 1) (.slice (some ⟨w1.heap.size, 0, none⟩) 17 17) its from by
      rw [← hst]
      exact three_reads HR7.out _ _ _)
    have HIV8 := Lib.hid (show HasCells w8 w2.heap.size _ 44 from hst ▸ ((HIV7.out.setOther (by omega) _).setOther (by omega) _).setOther (by omega) _)
    have HKD8 := Lib.hid (show w8.heap[D]? = _ from hst ▸ ((Below.heap_setCell _ ⟨w.heap.size, 2, none⟩ _ D (show D ≠ w.heap.size by omega)).trans ((Below.heap_setCell _ ⟨w.heap.size, 1, none⟩ _ D (show D ≠ w.heap.size by omega)).trans ((Below.heap_setCell _ ⟨w.heap.size, 0, none⟩ _ D (show D ≠ w.heap.size by omega)).trans HKD7.out))))
    have HK8 := Lib.hid (show KidsAt _ _ _ _ w8 _ _ _ _ _ from hst ▸ ((HK7.out.setLow (q := w.heap.size) (by omega) 0 (.bool true)).setLow (q := w.heap.size) (by omega) 1 (.string ⟨#[]⟩)).setLow (q := w.heap.size) (by omega) 2 (.slice (some ⟨w1.heap.size, 0, none⟩) 17 17))
    clear hst e0 e1 e2 f0 f1 f2
    refine hK.out _ _ (⟨HP8.out.cell (j := 0) rfl, HIV8.out.cell (j := 0) rfl⟩) (fun hHeld => ?_)
    clear hK K
    try simp only [Act.put, zq1, zq2, zq3, zq4, zq5, zq6]
    refine wpAnyH_done (by kernel_rfl) ?_ 0
    dsimp only [Exit.then]
    go_wp2_with fail
    refine wp_calm ?_
    refine wp_region_held_drew (S := (fun W => W.cell? ⟨w.heap.size + 1, 0, none⟩ = some (.pointer (some ⟨w.heap.size, 0, none⟩)) ∧ W.cell? ⟨w.heap.size, 0, none⟩ = some (.bool true) ∧ W.cell? ⟨w.heap.size, 1, none⟩ = some (.string ⟨#[]⟩) ∧ W.cell? ⟨w.heap.size, 2, none⟩ = some (.slice (some ⟨w1.heap.size, 0, none⟩) 17 17))) (by kernel_rfl) (⟨(HP8.out.kept rfl : HasCells w8.drew _ _ 41).cell (j := 0) rfl, (HX8.out.kept rfl : HasCells w8.drew _ _ 49).cell (j := 0) rfl, (HX8.out.kept rfl : HasCells w8.drew _ _ 49).cell (j := 1) rfl, (HX8.out.kept rfl : HasCells w8.drew _ _ 49).cell (j := 2) rfl⟩) (fun hHeld => ?_)
    refine wpAnyH_take (i := 0) (v := ?_) rfl (by kernel_rfl) (by kernel_rfl) (by kernel_rfl) (fun _ _ _ h => h) (.inl ⟨by rfl, ?_⟩) (by assumption) ?_
    rotate_left 1
    · intro w0 hSw
      obtain ⟨z0, z1, z2, z3⟩ := hSw
      go_simp <;> with_reducible rfl
    try simp only [Act.put, zq1, zq2, zq4, zq5, zq6]
    refine wpAnyH_take (i := 1) (v := ?_) rfl (by kernel_rfl) (by kernel_rfl) (by kernel_rfl) (fun _ _ _ h => h) (.inl ⟨by rfl, ?_⟩) (by assumption) ?_
    rotate_left 1
    · intro w0 hSw
      obtain ⟨z0, z1, z2, z3⟩ := hSw
      go_simp <;> with_reducible rfl
    try simp only [Act.put, zq1, zq2, zq3, zq4, zq5, zq6]
    refine wpAnyH_take (i := 2) (v := ?_) rfl (by kernel_rfl) (by kernel_rfl) (by kernel_rfl) (fun _ _ _ h => h) (.inl ⟨by rfl, ?_⟩) (by assumption) ?_
    rotate_left 1
    · intro w0 hSw
      go_simp <;> with_reducible rfl
    try simp only [Act.put, zq1, zq2, zq3, zq4, zq5, zq6]
    refine wpAnyH_take (i := 3) (v := ?_) rfl (by kernel_rfl) (by kernel_rfl) (by kernel_rfl) (fun _ _ _ h => h) (.inl ⟨by rfl, ?_⟩) (by assumption) ?_
    rotate_left 1
    · intro w0 hSw
      go_simp <;> with_reducible rfl
    try simp only [Act.put, zq1, zq2, zq3, zq4, zq5, zq6]
    refine wpAnyH_take (i := 4) (v := ?_) rfl (by kernel_rfl) (by kernel_rfl) (by kernel_rfl) (fun _ _ _ h => h) (.inl ⟨by rfl, ?_⟩) (by assumption) ?_
    rotate_left 1
    · intro w0 hSw
      obtain ⟨z0, z1, z2, z3⟩ := hSw
      go_simp <;> with_reducible rfl
    try simp only [Act.put, zq1, zq2, zq3, zq4, zq5, zq6]
    refine wpAnyH_ready (rs := [5]) (by kernel_rfl) (by simp) ?_
    refine AllReadyH.cons rfl (fun K hK => ?_) AllReadyH.nil
    go_simp
    go_at_call 61
    refine (HE.out _ _ (RIn.reads (RIn.below HR8.out ((Below.refl _ _).drew)))).mono ?_
    rintro e v1 ⟨rfl, hb⟩
    have HBa := Lib.hid (HB8.out.trans ((Below.refl _ _).drew.trans hb |>.mono HB8.out.size))
    have HSa := Lib.hid (show Below w8.heap.size w8 v1 from (Below.refl _ _).drew.trans hb)
    have HXa := Lib.hid (HX8.out.after HSa.out)
    have HPa := Lib.hid (HP8.out.after HSa.out)
    clear hb
    refine hK.out _ _ (⟨HPa.out.cell (j := 0) rfl, HXa.out.cell (j := 0) rfl, HXa.out.cell (j := 1) rfl, HXa.out.cell (j := 2) rfl⟩) (fun hHeld => ?_)
    clear hK K
    try simp only [Act.put, zq1, zq2, zq3, zq4, zq5, zq6]
    refine wpAnyH_take (i := 6) (v := ?_) rfl (by kernel_rfl) (by kernel_rfl) (by kernel_rfl) (fun _ _ _ h => h) (.inl ⟨by rfl, ?_⟩) (by assumption) ?_
    rotate_left 1
    · intro w0 hSw
      go_simp <;> with_reducible rfl
    try simp only [Act.put, zq1, zq2, zq3, zq4, zq5, zq6]
    refine wpAnyH_take (i := 7) (v := ?_) rfl (by kernel_rfl) (by kernel_rfl) (by kernel_rfl) (fun _ _ _ h => h) (.inl ⟨by rfl, ?_⟩) (by assumption) ?_
    rotate_left 1
    · intro w0 hSw
      go_simp <;> with_reducible rfl
    try simp only [Act.put, zq1, zq2, zq3, zq4, zq5, zq6]
    refine wpAnyH_take (i := 8) (v := ?_) rfl (by kernel_rfl) (by kernel_rfl) (by kernel_rfl) (fun _ _ _ h => h) (.inl ⟨by rfl, ?_⟩) (by assumption) ?_
    rotate_left 1
    · intro w0 hSw
      go_simp <;> with_reducible rfl
    try simp only [Act.put, zq1, zq2, zq3, zq4, zq5, zq6]
    refine wpAnyH_take (i := 9) (v := ?_) rfl (by kernel_rfl) (by kernel_rfl) (by kernel_rfl) (fun _ _ _ h => h) (.inl ⟨by rfl, ?_⟩) (by assumption) ?_
    rotate_left 1
    · intro w0 hSw
      go_simp <;> with_reducible rfl
    try simp only [Act.put, zq1, zq2, zq3, zq4, zq5, zq6]
    refine wpAnyH_take (i := 10) (v := ?_) rfl (by kernel_rfl) (by kernel_rfl) (by kernel_rfl) (fun _ _ _ h => h) (.inl ⟨by rfl, ?_⟩) (by assumption) ?_
    rotate_left 1
    · intro w0 hSw
      go_simp <;> with_reducible rfl
    try simp only [Act.put, zq1, zq2, zq3, zq4, zq5, zq6]
    have e3 := HXa.out.cell (j := 3) rfl
    have f3 := HXa.out.frozen 3
    refine wpAnyH_ready (rs := [11]) (by kernel_rfl) (by simp) ?_
    refine AllReadyH.cons rfl (fun K hK => ?_) AllReadyH.nil
    go_simp
    obtain ⟨v2, hv2⟩ : ∃ W, v1.setCell ⟨w.heap.size, 3, none⟩ (.string ⟨by_.toArray⟩) = W := ⟨_, rfl⟩
    rw [hv2]
    have HXb := Lib.hid (show HasCells v2 _ _ 49 from hv2 ▸ HXa.out.set 3 (.string ⟨by_.toArray⟩))
    have HPb := Lib.hid (show HasCells v2 _ _ 41 from hv2 ▸ HPa.out.setOther (by omega) _)
    have HVb := Lib.hid hv2
    clear hv2 e3 f3
    refine hK.out _ _ (⟨HPb.out.cell (j := 0) rfl, HXb.out.cell (j := 0) rfl, HXb.out.cell (j := 1) rfl, HXb.out.cell (j := 2) rfl⟩) (fun hHeld => ?_)
    clear hK K
    try simp only [Act.put, zq1, zq2, zq3, zq4, zq5, zq6]
    refine wpAnyH_done (by kernel_rfl) ?_ 0
    have p0 := HPb.out.cell (j := 0) rfl
    go_wp2
    have HBb := Lib.hid (show Below w.heap.size w v2 from HVb.out ▸ HBa.out.setCell (p := ⟨w.heap.size, 3, none⟩) (Nat.le_refl _) _)
    have HRb := Lib.hid (show RIn v2 (w.heap.size + 1) (.slice (some ⟨w1.heap.size, 0, none⟩) 17 17) its from HVb.out ▸ RIn.store (RIn.below HR8.out HSa.out) (Nat.lt_succ_self _) _)
    have HKb := Lib.hid (show KidsAt _ _ _ _ v2 _ _ _ _ _ from HVb.out ▸ (HK8.out.after HSa.out).setLow (q := w.heap.size) (by omega) 3 (.string ⟨by_.toArray⟩))
    have hKDb : v2.heap[D]? = some (.deferred (some [])) := by
      rw [← HVb.out]
      exact (Below.heap_setCell _ ⟨w.heap.size, 3, none⟩ _ D (show D ≠ w.heap.size by omega)).trans ((HSa.out.block D (Array.getElem?_eq_some_iff.1 HKD8.out).1).trans HKD8.out)
    have hfin : NodeAt (f + 1) (fun k => w.heap.size ≤ k ∧ k < v2.heap.size) v2 ps d w.heap.size := by
      refine ⟨.slice (some ⟨w1.heap.size, 0, none⟩) 17 17, ul, un, PP, ⟨Nat.le_refl _, HXb.out.lt⟩, by rw [HX.out, HBY.out]; exact HXb.out, by rw [HX.out]; exact RIn.mono HRb.out (Nat.le_succ _), ?_, ?_, ?_, ?_⟩
      · exact HKb.out.l.textsIn (fun g e => ⟨(HKb.out.l.lt g e).1, (HKb.out.l.lt g e).2⟩)
      · exact HKb.out.n.ptrsIn (fun g e => ⟨(HKb.out.n.lt g e).1, (HKb.out.n.lt g e).2⟩)
      · have h := HKb.out.len
        rw [List.length_map] at h
        exact h
      · intro j k hk
        obtain ⟨gk, e1, e2⟩ := HKb.out.kid j k.2 (by rw [List.getElem?_map, hk]; rfl)
        exact ⟨gk, e1, e2.kept (fun _ _ => rfl) (fun g hg => ⟨by have := (HKb.out.foot g hg).1; omega, (HKb.out.foot g hg).2.1⟩)⟩
    have hgr := grownBy_putObj' v2 D (.deferred none)
    have hrow : ∀ r, some D = some r → ∃ o : Obj, v2.heap[r]? = some o ∧ o.isCells = false := fun r e => by cases e; exact ⟨_, hKDb, rfl⟩
    have ck : CellsKept (fun _ => True) v2 _ := CellsKept.grown hgr (fun r e _ => hrow r e)
    have hsg := hgr.size
    refine ⟨by simp, .inl ⟨_, _, rfl, run_takeDeferred hKDb, ?_⟩⟩
    refine ⟨_, results_tmp rfl _ _ _, w.heap.size, rfl, hfin.keptC (fun g _ => ck g trivial) (fun g hg => ⟨hg.1, by omega⟩), HBb.out.grown hgr HBb.out.size (fun r e => by cases e; omega)⟩
end Go.Proofs.YthicdhnjincflaaGreatDoor

namespace Go.Proofs.YthicdhnjincflaaGreatDoor
open Go.RowKit Go.Shelf Go.Lib
theorem grow_all : ∀ f, GrowC f
  | 0 => fun qs d v w _ _ hval _ _ _ hfd => by have := valid_le hval; omega
  | f + 1 => fun qs d v w hasc heven hval hfa hun hlen hfd hkt hv => by
    match qs, hasc, heven, hval, hfa, hun, hlen, hv with
    | [], _, _, hval, _, _, _, _ => exact absurd rfl hval.1
    | [q], _, _, hval, hfa, _, _, hv => exact grow_leaf f q d v w hval hfa hfd hv
    | q :: q2 :: r, hasc, heven, hval, hfa, hun, hlen, hv =>
      by_cases hn : 0 < alikeP (q :: q2 :: r) d
      · exact grow_ext f (grow_all f) q q2 r d v w hasc heven hval hfa hun hlen hfd hkt hv hn
      · exact grow_br f (grow_all f) q q2 r d v w hasc heven hval hfa hun hlen hfd hkt hv hn
end Go.Proofs.YthicdhnjincflaaGreatDoor
