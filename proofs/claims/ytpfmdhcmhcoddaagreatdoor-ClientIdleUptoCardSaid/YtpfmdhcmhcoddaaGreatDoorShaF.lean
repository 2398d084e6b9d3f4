/- The walk of sha.Sum. -/
import Derived.Test.YtpfmdhcmhcoddaaGreatDoorShaE
namespace Go.Proofs.YtpfmdhcmhcoddaaGreatDoor
open Go.RowKit Go.Shelf Go.Lib
attribute [local go_sem] Oper.semAt_some

theorem OwnB.strAsS {P : Program} {e t src dst : TypeId} {base : Nat} {w : World} {v : Value} {l : List UInt8} (h : OwnB t base w v l)
    (hs : P.underlying src = some (.slice e)) (he : P.underlying e = some (.int .u8)) (hd : P.underlying dst = some .string) :
    (convert src dst v).run P w = .ok (.string ⟨l.toArray⟩) w := by
  have hc := fun g (hg : v.ownBlock = some g) => World.ownsRow.cells h hg
  obtain ⟨_, ⟨rfl, h0⟩ | ⟨g, cap, cur, rfl, _⟩⟩ := h
  · obtain rfl : l = [] := List.length_eq_zero_iff.1 h0
    rw [run_convert_bytes_string w src dst e none 0 0 hs he hd]
    rfl
  · exact run_convert_bytes_back w src dst e _ cap l hs he hd (fun j hj => hc g rfl j _ (by simp [Lib.byteCells, hj]))
theorem wbyte (x : UInt32) (k : UInt32) (m : Nat) (hm : (x >>> k).toNat = x.toNat / m) : wv x / (m : Int) % 256 = ((x >>> k).toUInt8.toNat : Int) := by
  unfold wv
  rw [UInt32.toNat_toUInt8, hm]
  omega
theorem wbyte24 (x : UInt32) : wv x / (16777216 : Int) % (256 : Int) = ((x >>> 24).toUInt8.toNat : Int) := wbyte x 24 16777216 (by rw [UInt32.toNat_shiftRight]; rw [show (24 : UInt32).toNat % 32 = 24 from rfl, Nat.shiftRight_eq_div_pow])
theorem wbyte16 (x : UInt32) : wv x / (65536 : Int) % (256 : Int) = ((x >>> 16).toUInt8.toNat : Int) := wbyte x 16 65536 (by rw [UInt32.toNat_shiftRight]; rw [show (16 : UInt32).toNat % 32 = 16 from rfl, Nat.shiftRight_eq_div_pow])
theorem wbyte8 (x : UInt32) : wv x / (256 : Int) % (256 : Int) = ((x >>> 8).toUInt8.toNat : Int) := wbyte x 8 256 (by rw [UInt32.toNat_shiftRight]; rw [show (8 : UInt32).toNat % 32 = 8 from rfl, Nat.shiftRight_eq_div_pow])
theorem wbyte0 (x : UInt32) : wv x % (256 : Int) = (x.toUInt8.toNat : Int) := by
  unfold wv
  rw [UInt32.toNat_toUInt8]
  omega
theorem part32b_length {bl : List UInt8} {k : Nat} (h : bl.length = 32) (hk : k ≤ 32) : (bl.take k ++ List.replicate (32 - k) 0).length = 32 := by simp [h]; omega
theorem part32b_set {bl : List UInt8} {k : Nat} (h : bl.length = 32) (hk : k < 32) : (bl.take k ++ List.replicate (32 - k) 0).set k (bl[k]'(by rw [h]; exact hk)) = bl.take (k + 1) ++ List.replicate (32 - (k + 1)) 0 := by
  have hl : (bl.take k).length = k := by rw [List.length_take]; omega
  obtain ⟨m, hm⟩ : ∃ m, 32 - k = m + 1 := ⟨32 - k - 1, by omega⟩
  rw [List.set_append_right _ _ (by omega), hl, Nat.sub_self, hm, show 32 - (k + 1) = m from by omega, List.replicate_succ, List.set_cons_zero, List.take_add_one, List.getElem?_eq_getElem (by omega), List.append_assoc]
  rfl

set_option maxRecDepth 100000 in
set_option maxHeartbeats 6400000 in
theorem shaSum_any (v : Value) (xs : List ByteArray) (w : World) (hv : Strs w v xs) (hN : xs.length ≤ 1099511627776) (hlen : (lettersOf xs).length ≤ 1099511627776) (hK : KTab w) :
    Calls Tryz.prog 116 #[v] w fun e w' => e = .returned (.string ⟨(shaOf (lettersOf xs)).toArray⟩) ∧ Below w.heap.size w w' := by
  have hst : Row32 (w.alloc (.cells #[.int .u32 1779033703, .int .u32 3144134277, .int .u32 1013904242, .int .u32 2773480762, .int .u32 1359893119, .int .u32 2600822924, .int .u32 528734635, .int .u32 1541459225] 297)) w.heap.size St.start.list := Row32.new w St.start.list 297
  have hJ := Lib.hid (join_any v xs (w.alloc (.cells #[.int .u32 1779033703, .int .u32 3144134277, .int .u32 1013904242, .int .u32 2773480762, .int .u32 1359893119, .int .u32 2600822924, .int .u32 528734635, .int .u32 1541459225] 297)) (hv.below ((Below.refl _ _).alloc (Nat.le_refl _) _)) hN hlen)
  obtain ⟨p, c, rfl, -⟩ := hv
  obtain ⟨s, hs⟩ : ∃ s, lettersOf xs = s := ⟨_, rfl⟩
  rw [hs] at hJ hlen ⊢
  have HST := Lib.hid hst
  have HK := Lib.hid hK
  clear hst hK hs
  refine (callsIn_wide (n := 9)).1 ?_
  refine callsIn_of_wp_marks Tryz.func116 rfl trivial ?_ rfl
  simp only [Tryz.ntmps116, List.size_toArray, List.length_cons, List.length_nil, Nat.reduceAdd, Nat.reduceSub, Array.replicate_succ, Array.replicate_zero, List.push_toArray, List.append_toArray, List.nil_append, List.cons_append]
  gi_wp2_with (refine ⟨trivial, ?_⟩; gi_at_call 149; refine (callsIn_wide.2 hJ.out).mono ?_)
  rintro e w1 ⟨rfl, hb1⟩
  gi_wp2_with (refine ⟨trivial, ?_⟩; gi_at_call 184; refine (blocks_any Fence.wide _ trivial rfl _ _).mono ?_)
  rintro e w2 ⟨rfl, rfl⟩
  gi_wp2
  have hz1 := hb1.size
  rw [World.size_alloc] at hz1
  have hI0 : SumI w w1.heap.size [] (w1.alloc (.cells #[.string ⟨s.toArray⟩] 9)) := by
    refine ⟨(HST.out.kept (hb1.block _ (by simp))).kept (Below.heap_alloc _ _ _ (by omega)), ⟨_, Boxed.new w1 9 (.string ⟨s.toArray⟩)⟩, ((((Below.refl _ _).alloc (Nat.le_refl _) _).trans (hb1.mono (by simp))).alloc (by omega) _), by simp; omega⟩
  have hbox : Boxed (w1.alloc (.cells #[.string ⟨s.toArray⟩] 9)) w1.heap.size 9 (.string ⟨s.toArray⟩) := Boxed.new w1 9 (.string ⟨s.toArray⟩)
  have hsz : (w1.alloc (.cells #[.string ⟨s.toArray⟩] 9)).heap.size = w1.heap.size + 1 := by simp
  obtain ⟨w3, hw3⟩ : ∃ w3, w1.alloc (.cells #[.string ⟨s.toArray⟩] 9) = w3 := ⟨_, rfl⟩
  rw [hw3] at hI0 hbox hsz ⊢
  clear hw3
  have hBn : w.heap.size < w1.heap.size := by omega
  refine wpIn_rangeFunc_X rfl (by omega) (gf := 234) (lb := #[.pointer (some ⟨w1.heap.size, 0, none⟩)]) rfl trivial (enters_of Tryz.func234 (by kernel_rfl) rfl)
    (encs := encS) (Step := StepS w1.heap.size) (Good := fun _ x _ _ => x.length = 64) (Kp := SameS w1.heap.size) (S := fun xs => Blocks xs (pad s)) (Sp := fun _ => True) (w0 := w3)
    (fun l J Jx W hW hJs _ hY h0 => (blocks_body _ (by omega) l w1.heap.size s hlen J Jx hJs (fun pre x W1 hj hl => hY pre x W1 W1 hj (StepS.refl _ _) hl) W ((hW.block _ (by omega)).trans hbox) h0).mono
      (fun e W' ⟨h1, h2⟩ => ⟨h1, h2.imp id (fun ⟨pre, h⟩ => ⟨pre, trivial, h⟩)⟩))
    (fun h k => k.trans h) (fun W l o o' hl _ _ _ => World.putObj_heap_other (by omega)) (Below.refl _ _) (fun _ => rfl)
    (fun A B k o hst hk hA _ => (hst.1.block k (Array.getElem?_eq_some_iff.1 hA).1 (fun e => by cases e; omega)).trans hA)
    (SumI w w1.heap.size) (fun _ _ _ => False)
    (fun pre x a' W => a' = { tmps := #[.slice p xs.length c, undef, .string ⟨#[]⟩, .pointer (some ⟨w.heap.size, 0, none⟩), .string ⟨x.toArray⟩, undef, undef, .agg #[.int .u32 1779033703, .int .u32 3144134277, .int .u32 1013904242, .int .u32 2773480762, .int .u32 1359893119, .int .u32 2600822924, .int .u32 528734635, .int .u32 1541459225], .slice p xs.length c, .string ⟨s.toArray⟩, .func (.func 234) #[] #[.pointer (some ⟨w1.heap.size, 0, none⟩)], .string ⟨x.toArray⟩, undef, undef, undef, undef, undef, undef, undef, undef, undef, undef, undef, undef, undef, undef, undef, undef, undef, undef, undef, undef], defers := [] } ∧ SumI w w1.heap.size pre W ∧ x.length = 64)
    (SumI.own w _ _ hBn (by omega)) (fun _ _ _ _ _ h _ _ => h) (fun pre x a' _ W W' row ⟨h1, h2, h3⟩ hg hr => ⟨h1, SumI.own w _ w3.heap.size hBn (by omega) _ _ _ row h2 hg hr, h3⟩)
    (fun pre A B h hst => h.step hBn hst) (fun _ _ _ _ h _ => h) hI0 ?assign ?body ?done ?stop
  case assign =>
    rintro l pre x Wa W K hI hst hgood hK'
    have hI2 := hI.step hBn hst
    simp only [encS]
    gi_wp2
    exact hK' _ _ ((KeepsOthers.refl _).from _) rfl ⟨rfl, hI2, hgood⟩
  case body =>
    rintro l pre x a' W hl ⟨r, hr⟩ ⟨rfl, hI, hx⟩
    obtain ⟨a1, ⟨t, a2⟩, a3, a4⟩ := hI
    have hT := Lib.hid (shaTake_any x w.heap.size (pre.foldl St.take St.start) W hx a1 (HK.out.below a3))
    clear a1
    gi_wp2_with (refine ⟨trivial, ?_⟩; gi_at_call 185; refine (callsIn_wide.2 hT.out).mono ?_)
    rintro e W2 ⟨⟨v, rfl⟩, hR, hg⟩
    gi_wp2
    refine ⟨KeepsFrom.of_grownBy hg (fun j e => by cases e; omega), hg.block _ a2.lt (fun e => by have := Option.some.inj e; omega), ?_, ⟨t, a2.kept hg (fun e => by have := Option.some.inj e; omega)⟩, a3.grown hg a3.size (fun r e => by cases e; omega), Nat.lt_of_lt_of_le a4 hg.size⟩
    rw [List.foldl_append]
    exact hR
  case done =>
    rintro D ys W hD hS hI hK'
    obtain ⟨a1, -, a3, a4⟩ := hI
    have hres := shaOf_eq hS
    unfold sumOf at hres
    obtain ⟨fi, hfi⟩ : ∃ fi, ys.foldl St.take St.start = fi := ⟨_, rfl⟩
    rw [hfi] at a1 hres
    obtain ⟨bl, hbl⟩ : ∃ bl, fi.list.flatMap bytes32 = bl := ⟨_, rfl⟩
    rw [hbl] at hres
    have HRES := Lib.hid hres
    have hbll : bl.length = 32 := by rw [← hbl]; rfl
    have hbx : ∀ k, k < 32 → bl[k]? = (fi.list.flatMap bytes32)[k]? := fun k _ => by rw [hbl]
    have HBX := Lib.hid hbx
    have HBL := Lib.hid hbll
    have l0 : OwnB 252 W.heap.size (W.alloc (.cells (Lib.byteCells (List.replicate 32 0)).toArray 252)) (.slice (some ⟨W.heap.size, 0, none⟩) 32 32) (bl.take 0 ++ List.replicate (32 - 0) 0) := by
      have := OwnB.lit (e := 252) (base := W.heap.size) W (List.replicate 32 0) (Nat.le_refl _) (by simp)
      simpa using this
    have L0 := Lib.hid l0
    have HK' := Lib.hid hK'
    have A3 := Lib.hid a3
    have hr0 := a1.1 0 (by show 0 < 8; omega)
    have hr1 := a1.1 1 (by show 1 < 8; omega)
    have hr2 := a1.1 2 (by show 2 < 8; omega)
    have hr3 := a1.1 3 (by show 3 < 8; omega)
    have hr4 := a1.1 4 (by show 4 < 8; omega)
    have hr5 := a1.1 5 (by show 5 < 8; omega)
    have hr6 := a1.1 6 (by show 6 < 8; omega)
    have hr7 := a1.1 7 (by show 7 < 8; omega)
    have HR := Lib.hid (fun W' (hb : Below W.heap.size W W') => (show W'.cell? ⟨w.heap.size, 0, none⟩ = some (.int .u32 (wv fi.a)) ∧ W'.cell? ⟨w.heap.size, 1, none⟩ = some (.int .u32 (wv fi.b)) ∧ W'.cell? ⟨w.heap.size, 2, none⟩ = some (.int .u32 (wv fi.c)) ∧ W'.cell? ⟨w.heap.size, 3, none⟩ = some (.int .u32 (wv fi.d)) ∧ W'.cell? ⟨w.heap.size, 4, none⟩ = some (.int .u32 (wv fi.e)) ∧ W'.cell? ⟨w.heap.size, 5, none⟩ = some (.int .u32 (wv fi.f)) ∧ W'.cell? ⟨w.heap.size, 6, none⟩ = some (.int .u32 (wv fi.g)) ∧ W'.cell? ⟨w.heap.size, 7, none⟩ = some (.int .u32 (wv fi.h)) from
      ⟨(hb.cell (p := ⟨w.heap.size, 0, none⟩) a4).trans hr0, (hb.cell (p := ⟨w.heap.size, 1, none⟩) a4).trans hr1, (hb.cell (p := ⟨w.heap.size, 2, none⟩) a4).trans hr2, (hb.cell (p := ⟨w.heap.size, 3, none⟩) a4).trans hr3, (hb.cell (p := ⟨w.heap.size, 4, none⟩) a4).trans hr4, (hb.cell (p := ⟨w.heap.size, 5, none⟩) a4).trans hr5, (hb.cell (p := ⟨w.heap.size, 6, none⟩) a4).trans hr6, (hb.cell (p := ⟨w.heap.size, 7, none⟩) a4).trans hr7⟩))
    clear hr0 hr1 hr2 hr3 hr4 hr5 hr6 hr7 a1 hres hfi hbl hbll hbx hS l0 hK'
    gi_wp2
    gi_loopw [14] (fun i wr => ∃ k : Nat, k ≤ 32 ∧ i = .int .i64 k ∧ OwnB 252 W.heap.size wr (.slice (some ⟨W.heap.size, 0, none⟩) 32 32) (bl.take k ++ List.replicate (32 - k) 0) ∧ Below W.heap.size W wr) (fun i _ => 32 - (RowKit.intOf i).toNat)
    case atStart => exact ⟨0, by omega, rfl, L0.out, (Below.refl _ _).alloc (Nat.le_refl _) _⟩
    case round =>
      obtain ⟨k, hk, rfl, hown, hB⟩ := hrel
      by_cases hlt : k < 32
      · obtain ⟨_, hs', hc, hf⟩ := OwnB.cells hown (by rw [part32b_length HBL.out hk]; omega)
        obtain ⟨d0, d1, d2, d3, d4, d5, d6, d7⟩ := HR.out _ hB
        have hst := hown.stored k (bl[k]'(by rw [HBL.out]; exact hlt))
        rw [part32b_set HBL.out hlt] at hst
        have hfz := hf k
        have hck := hc k (by rw [part32b_length HBL.out hk]; exact hlt)
        obtain ⟨kk, hkk⟩ : ∃ kk, kk = k := ⟨_, rfl⟩
        have hby := HBX.out k hlt
        rw [List.getElem?_eq_getElem (by rw [HBL.out]; exact hlt)] at hby
        have Hst := Lib.hid hst
        have HB := Lib.hid hB
        have Hby := Lib.hid hby
        clear hst hown hc hf hB hby
        rcases (by omega : k = 0 ∨ k = 1 ∨ k = 2 ∨ k = 3 ∨ k = 4 ∨ k = 5 ∨ k = 6 ∨ k = 7 ∨ k = 8 ∨ k = 9 ∨ k = 10 ∨ k = 11 ∨ k = 12 ∨ k = 13 ∨ k = 14 ∨ k = 15 ∨ k = 16 ∨ k = 17 ∨ k = 18 ∨ k = 19 ∨ k = 20 ∨ k = 21 ∨ k = 22 ∨ k = 23 ∨ k = 24 ∨ k = 25 ∨ k = 26 ∨ k = 27 ∨ k = 28 ∨ k = 29 ∨ k = 30 ∨ k = 31) with rfl | rfl | rfl | rfl | rfl | rfl | rfl | rfl | rfl | rfl | rfl | rfl | rfl | rfl | rfl | rfl | rfl | rfl | rfl | rfl | rfl | rfl | rfl | rfl | rfl | rfl | rfl | rfl | rfl | rfl | rfl | rfl
        · have HK := Lib.hid hkk
          clear hkk
          gi_wp2
          have e : bl[0]'(by rw [HBL.out]; omega) = (fi.a >>> 24).toUInt8 := Option.some.inj (Hby.out.trans rfl)
          obtain ⟨q1, q2⟩ := Hst.out
          rw [e] at q1 q2
          rw [wbyte24 fi.a]
          exact ⟨⟨kk + 1, by have := HK.out; omega, by rw [HK.out] <;> rfl, by rw [HK.out]; exact q1, HB.out.grown q2 (by have := HB.out.size; omega) (fun j hj => by have := Option.some.inj hj; omega)⟩, by simp [RowKit.intOf]⟩
        · have HK := Lib.hid hkk
          clear hkk
          gi_wp2
          have e : bl[1]'(by rw [HBL.out]; omega) = (fi.a >>> 16).toUInt8 := Option.some.inj (Hby.out.trans rfl)
          obtain ⟨q1, q2⟩ := Hst.out
          rw [e] at q1 q2
          rw [wbyte16 fi.a]
          exact ⟨⟨kk + 1, by have := HK.out; omega, by rw [HK.out] <;> rfl, by rw [HK.out]; exact q1, HB.out.grown q2 (by have := HB.out.size; omega) (fun j hj => by have := Option.some.inj hj; omega)⟩, by simp [RowKit.intOf]⟩
        · have HK := Lib.hid hkk
          clear hkk
          gi_wp2
          have e : bl[2]'(by rw [HBL.out]; omega) = (fi.a >>> 8).toUInt8 := Option.some.inj (Hby.out.trans rfl)
          obtain ⟨q1, q2⟩ := Hst.out
          rw [e] at q1 q2
          rw [wbyte8 fi.a]
          exact ⟨⟨kk + 1, by have := HK.out; omega, by rw [HK.out] <;> rfl, by rw [HK.out]; exact q1, HB.out.grown q2 (by have := HB.out.size; omega) (fun j hj => by have := Option.some.inj hj; omega)⟩, by simp [RowKit.intOf]⟩
        · have HK := Lib.hid hkk
          clear hkk
          gi_wp2
          have e : bl[3]'(by rw [HBL.out]; omega) = fi.a.toUInt8 := Option.some.inj (Hby.out.trans rfl)
          obtain ⟨q1, q2⟩ := Hst.out
          rw [e] at q1 q2
          rw [wbyte0 fi.a]
          exact ⟨⟨kk + 1, by have := HK.out; omega, by rw [HK.out] <;> rfl, by rw [HK.out]; exact q1, HB.out.grown q2 (by have := HB.out.size; omega) (fun j hj => by have := Option.some.inj hj; omega)⟩, by simp [RowKit.intOf]⟩
        · have HK := Lib.hid hkk
          clear hkk
          gi_wp2
          have e : bl[4]'(by rw [HBL.out]; omega) = (fi.b >>> 24).toUInt8 := Option.some.inj (Hby.out.trans rfl)
          obtain ⟨q1, q2⟩ := Hst.out
          rw [e] at q1 q2
          rw [wbyte24 fi.b]
          exact ⟨⟨kk + 1, by have := HK.out; omega, by rw [HK.out] <;> rfl, by rw [HK.out]; exact q1, HB.out.grown q2 (by have := HB.out.size; omega) (fun j hj => by have := Option.some.inj hj; omega)⟩, by simp [RowKit.intOf]⟩
        · have HK := Lib.hid hkk
          clear hkk
          gi_wp2
          have e : bl[5]'(by rw [HBL.out]; omega) = (fi.b >>> 16).toUInt8 := Option.some.inj (Hby.out.trans rfl)
          obtain ⟨q1, q2⟩ := Hst.out
          rw [e] at q1 q2
          rw [wbyte16 fi.b]
          exact ⟨⟨kk + 1, by have := HK.out; omega, by rw [HK.out] <;> rfl, by rw [HK.out]; exact q1, HB.out.grown q2 (by have := HB.out.size; omega) (fun j hj => by have := Option.some.inj hj; omega)⟩, by simp [RowKit.intOf]⟩
        · have HK := Lib.hid hkk
          clear hkk
          gi_wp2
          have e : bl[6]'(by rw [HBL.out]; omega) = (fi.b >>> 8).toUInt8 := Option.some.inj (Hby.out.trans rfl)
          obtain ⟨q1, q2⟩ := Hst.out
          rw [e] at q1 q2
          rw [wbyte8 fi.b]
          exact ⟨⟨kk + 1, by have := HK.out; omega, by rw [HK.out] <;> rfl, by rw [HK.out]; exact q1, HB.out.grown q2 (by have := HB.out.size; omega) (fun j hj => by have := Option.some.inj hj; omega)⟩, by simp [RowKit.intOf]⟩
        · have HK := Lib.hid hkk
          clear hkk
          gi_wp2
          have e : bl[7]'(by rw [HBL.out]; omega) = fi.b.toUInt8 := Option.some.inj (Hby.out.trans rfl)
          obtain ⟨q1, q2⟩ := Hst.out
          rw [e] at q1 q2
          rw [wbyte0 fi.b]
          exact ⟨⟨kk + 1, by have := HK.out; omega, by rw [HK.out] <;> rfl, by rw [HK.out]; exact q1, HB.out.grown q2 (by have := HB.out.size; omega) (fun j hj => by have := Option.some.inj hj; omega)⟩, by simp [RowKit.intOf]⟩
        · have HK := Lib.hid hkk
          clear hkk
          gi_wp2
          have e : bl[8]'(by rw [HBL.out]; omega) = (fi.c >>> 24).toUInt8 := Option.some.inj (Hby.out.trans rfl)
          obtain ⟨q1, q2⟩ := Hst.out
          rw [e] at q1 q2
          rw [wbyte24 fi.c]
          exact ⟨⟨kk + 1, by have := HK.out; omega, by rw [HK.out] <;> rfl, by rw [HK.out]; exact q1, HB.out.grown q2 (by have := HB.out.size; omega) (fun j hj => by have := Option.some.inj hj; omega)⟩, by simp [RowKit.intOf]⟩
        · have HK := Lib.hid hkk
          clear hkk
          gi_wp2
          have e : bl[9]'(by rw [HBL.out]; omega) = (fi.c >>> 16).toUInt8 := Option.some.inj (Hby.out.trans rfl)
          obtain ⟨q1, q2⟩ := Hst.out
          rw [e] at q1 q2
          rw [wbyte16 fi.c]
          exact ⟨⟨kk + 1, by have := HK.out; omega, by rw [HK.out] <;> rfl, by rw [HK.out]; exact q1, HB.out.grown q2 (by have := HB.out.size; omega) (fun j hj => by have := Option.some.inj hj; omega)⟩, by simp [RowKit.intOf]⟩
        · have HK := Lib.hid hkk
          clear hkk
          gi_wp2
          have e : bl[10]'(by rw [HBL.out]; omega) = (fi.c >>> 8).toUInt8 := Option.some.inj (Hby.out.trans rfl)
          obtain ⟨q1, q2⟩ := Hst.out
          rw [e] at q1 q2
          rw [wbyte8 fi.c]
          exact ⟨⟨kk + 1, by have := HK.out; omega, by rw [HK.out] <;> rfl, by rw [HK.out]; exact q1, HB.out.grown q2 (by have := HB.out.size; omega) (fun j hj => by have := Option.some.inj hj; omega)⟩, by simp [RowKit.intOf]⟩
        · have HK := Lib.hid hkk
          clear hkk
          gi_wp2
          have e : bl[11]'(by rw [HBL.out]; omega) = fi.c.toUInt8 := Option.some.inj (Hby.out.trans rfl)
          obtain ⟨q1, q2⟩ := Hst.out
          rw [e] at q1 q2
          rw [wbyte0 fi.c]
          exact ⟨⟨kk + 1, by have := HK.out; omega, by rw [HK.out] <;> rfl, by rw [HK.out]; exact q1, HB.out.grown q2 (by have := HB.out.size; omega) (fun j hj => by have := Option.some.inj hj; omega)⟩, by simp [RowKit.intOf]⟩
        · have HK := Lib.hid hkk
          clear hkk
          gi_wp2
          have e : bl[12]'(by rw [HBL.out]; omega) = (fi.d >>> 24).toUInt8 := Option.some.inj (Hby.out.trans rfl)
          obtain ⟨q1, q2⟩ := Hst.out
          rw [e] at q1 q2
          rw [wbyte24 fi.d]
          exact ⟨⟨kk + 1, by have := HK.out; omega, by rw [HK.out] <;> rfl, by rw [HK.out]; exact q1, HB.out.grown q2 (by have := HB.out.size; omega) (fun j hj => by have := Option.some.inj hj; omega)⟩, by simp [RowKit.intOf]⟩
        · have HK := Lib.hid hkk
          clear hkk
          gi_wp2
          have e : bl[13]'(by rw [HBL.out]; omega) = (fi.d >>> 16).toUInt8 := Option.some.inj (Hby.out.trans rfl)
          obtain ⟨q1, q2⟩ := Hst.out
          rw [e] at q1 q2
          rw [wbyte16 fi.d]
          exact ⟨⟨kk + 1, by have := HK.out; omega, by rw [HK.out] <;> rfl, by rw [HK.out]; exact q1, HB.out.grown q2 (by have := HB.out.size; omega) (fun j hj => by have := Option.some.inj hj; omega)⟩, by simp [RowKit.intOf]⟩
        · have HK := Lib.hid hkk
          clear hkk
          gi_wp2
          have e : bl[14]'(by rw [HBL.out]; omega) = (fi.d >>> 8).toUInt8 := Option.some.inj (Hby.out.trans rfl)
          obtain ⟨q1, q2⟩ := Hst.out
          rw [e] at q1 q2
          rw [wbyte8 fi.d]
          exact ⟨⟨kk + 1, by have := HK.out; omega, by rw [HK.out] <;> rfl, by rw [HK.out]; exact q1, HB.out.grown q2 (by have := HB.out.size; omega) (fun j hj => by have := Option.some.inj hj; omega)⟩, by simp [RowKit.intOf]⟩
        · have HK := Lib.hid hkk
          clear hkk
          gi_wp2
          have e : bl[15]'(by rw [HBL.out]; omega) = fi.d.toUInt8 := Option.some.inj (Hby.out.trans rfl)
          obtain ⟨q1, q2⟩ := Hst.out
          rw [e] at q1 q2
          rw [wbyte0 fi.d]
          exact ⟨⟨kk + 1, by have := HK.out; omega, by rw [HK.out] <;> rfl, by rw [HK.out]; exact q1, HB.out.grown q2 (by have := HB.out.size; omega) (fun j hj => by have := Option.some.inj hj; omega)⟩, by simp [RowKit.intOf]⟩
        · have HK := Lib.hid hkk
          clear hkk
          gi_wp2
          have e : bl[16]'(by rw [HBL.out]; omega) = (fi.e >>> 24).toUInt8 := Option.some.inj (Hby.out.trans rfl)
          obtain ⟨q1, q2⟩ := Hst.out
          rw [e] at q1 q2
          rw [wbyte24 fi.e]
          exact ⟨⟨kk + 1, by have := HK.out; omega, by rw [HK.out] <;> rfl, by rw [HK.out]; exact q1, HB.out.grown q2 (by have := HB.out.size; omega) (fun j hj => by have := Option.some.inj hj; omega)⟩, by simp [RowKit.intOf]⟩
        · have HK := Lib.hid hkk
          clear hkk
          gi_wp2
          have e : bl[17]'(by rw [HBL.out]; omega) = (fi.e >>> 16).toUInt8 := Option.some.inj (Hby.out.trans rfl)
          obtain ⟨q1, q2⟩ := Hst.out
          rw [e] at q1 q2
          rw [wbyte16 fi.e]
          exact ⟨⟨kk + 1, by have := HK.out; omega, by rw [HK.out] <;> rfl, by rw [HK.out]; exact q1, HB.out.grown q2 (by have := HB.out.size; omega) (fun j hj => by have := Option.some.inj hj; omega)⟩, by simp [RowKit.intOf]⟩
        · have HK := Lib.hid hkk
          clear hkk
          gi_wp2
          have e : bl[18]'(by rw [HBL.out]; omega) = (fi.e >>> 8).toUInt8 := Option.some.inj (Hby.out.trans rfl)
          obtain ⟨q1, q2⟩ := Hst.out
          rw [e] at q1 q2
          rw [wbyte8 fi.e]
          exact ⟨⟨kk + 1, by have := HK.out; omega, by rw [HK.out] <;> rfl, by rw [HK.out]; exact q1, HB.out.grown q2 (by have := HB.out.size; omega) (fun j hj => by have := Option.some.inj hj; omega)⟩, by simp [RowKit.intOf]⟩
        · have HK := Lib.hid hkk
          clear hkk
          gi_wp2
          have e : bl[19]'(by rw [HBL.out]; omega) = fi.e.toUInt8 := Option.some.inj (Hby.out.trans rfl)
          obtain ⟨q1, q2⟩ := Hst.out
          rw [e] at q1 q2
          rw [wbyte0 fi.e]
          exact ⟨⟨kk + 1, by have := HK.out; omega, by rw [HK.out] <;> rfl, by rw [HK.out]; exact q1, HB.out.grown q2 (by have := HB.out.size; omega) (fun j hj => by have := Option.some.inj hj; omega)⟩, by simp [RowKit.intOf]⟩
        · have HK := Lib.hid hkk
          clear hkk
          gi_wp2
          have e : bl[20]'(by rw [HBL.out]; omega) = (fi.f >>> 24).toUInt8 := Option.some.inj (Hby.out.trans rfl)
          obtain ⟨q1, q2⟩ := Hst.out
          rw [e] at q1 q2
          rw [wbyte24 fi.f]
          exact ⟨⟨kk + 1, by have := HK.out; omega, by rw [HK.out] <;> rfl, by rw [HK.out]; exact q1, HB.out.grown q2 (by have := HB.out.size; omega) (fun j hj => by have := Option.some.inj hj; omega)⟩, by simp [RowKit.intOf]⟩
        · have HK := Lib.hid hkk
          clear hkk
          gi_wp2
          have e : bl[21]'(by rw [HBL.out]; omega) = (fi.f >>> 16).toUInt8 := Option.some.inj (Hby.out.trans rfl)
          obtain ⟨q1, q2⟩ := Hst.out
          rw [e] at q1 q2
          rw [wbyte16 fi.f]
          exact ⟨⟨kk + 1, by have := HK.out; omega, by rw [HK.out] <;> rfl, by rw [HK.out]; exact q1, HB.out.grown q2 (by have := HB.out.size; omega) (fun j hj => by have := Option.some.inj hj; omega)⟩, by simp [RowKit.intOf]⟩
        · have HK := Lib.hid hkk
          clear hkk
          gi_wp2
          have e : bl[22]'(by rw [HBL.out]; omega) = (fi.f >>> 8).toUInt8 := Option.some.inj (Hby.out.trans rfl)
          obtain ⟨q1, q2⟩ := Hst.out
          rw [e] at q1 q2
          rw [wbyte8 fi.f]
          exact ⟨⟨kk + 1, by have := HK.out; omega, by rw [HK.out] <;> rfl, by rw [HK.out]; exact q1, HB.out.grown q2 (by have := HB.out.size; omega) (fun j hj => by have := Option.some.inj hj; omega)⟩, by simp [RowKit.intOf]⟩
        · have HK := Lib.hid hkk
          clear hkk
          gi_wp2
          have e : bl[23]'(by rw [HBL.out]; omega) = fi.f.toUInt8 := Option.some.inj (Hby.out.trans rfl)
          obtain ⟨q1, q2⟩ := Hst.out
          rw [e] at q1 q2
          rw [wbyte0 fi.f]
          exact ⟨⟨kk + 1, by have := HK.out; omega, by rw [HK.out] <;> rfl, by rw [HK.out]; exact q1, HB.out.grown q2 (by have := HB.out.size; omega) (fun j hj => by have := Option.some.inj hj; omega)⟩, by simp [RowKit.intOf]⟩
        · have HK := Lib.hid hkk
          clear hkk
          gi_wp2
          have e : bl[24]'(by rw [HBL.out]; omega) = (fi.g >>> 24).toUInt8 := Option.some.inj (Hby.out.trans rfl)
          obtain ⟨q1, q2⟩ := Hst.out
          rw [e] at q1 q2
          rw [wbyte24 fi.g]
          exact ⟨⟨kk + 1, by have := HK.out; omega, by rw [HK.out] <;> rfl, by rw [HK.out]; exact q1, HB.out.grown q2 (by have := HB.out.size; omega) (fun j hj => by have := Option.some.inj hj; omega)⟩, by simp [RowKit.intOf]⟩
        · have HK := Lib.hid hkk
          clear hkk
          gi_wp2
          have e : bl[25]'(by rw [HBL.out]; omega) = (fi.g >>> 16).toUInt8 := Option.some.inj (Hby.out.trans rfl)
          obtain ⟨q1, q2⟩ := Hst.out
          rw [e] at q1 q2
          rw [wbyte16 fi.g]
          exact ⟨⟨kk + 1, by have := HK.out; omega, by rw [HK.out] <;> rfl, by rw [HK.out]; exact q1, HB.out.grown q2 (by have := HB.out.size; omega) (fun j hj => by have := Option.some.inj hj; omega)⟩, by simp [RowKit.intOf]⟩
        · have HK := Lib.hid hkk
          clear hkk
          gi_wp2
          have e : bl[26]'(by rw [HBL.out]; omega) = (fi.g >>> 8).toUInt8 := Option.some.inj (Hby.out.trans rfl)
          obtain ⟨q1, q2⟩ := Hst.out
          rw [e] at q1 q2
          rw [wbyte8 fi.g]
          exact ⟨⟨kk + 1, by have := HK.out; omega, by rw [HK.out] <;> rfl, by rw [HK.out]; exact q1, HB.out.grown q2 (by have := HB.out.size; omega) (fun j hj => by have := Option.some.inj hj; omega)⟩, by simp [RowKit.intOf]⟩
        · have HK := Lib.hid hkk
          clear hkk
          gi_wp2
          have e : bl[27]'(by rw [HBL.out]; omega) = fi.g.toUInt8 := Option.some.inj (Hby.out.trans rfl)
          obtain ⟨q1, q2⟩ := Hst.out
          rw [e] at q1 q2
          rw [wbyte0 fi.g]
          exact ⟨⟨kk + 1, by have := HK.out; omega, by rw [HK.out] <;> rfl, by rw [HK.out]; exact q1, HB.out.grown q2 (by have := HB.out.size; omega) (fun j hj => by have := Option.some.inj hj; omega)⟩, by simp [RowKit.intOf]⟩
        · have HK := Lib.hid hkk
          clear hkk
          gi_wp2
          have e : bl[28]'(by rw [HBL.out]; omega) = (fi.h >>> 24).toUInt8 := Option.some.inj (Hby.out.trans rfl)
          obtain ⟨q1, q2⟩ := Hst.out
          rw [e] at q1 q2
          rw [wbyte24 fi.h]
          exact ⟨⟨kk + 1, by have := HK.out; omega, by rw [HK.out] <;> rfl, by rw [HK.out]; exact q1, HB.out.grown q2 (by have := HB.out.size; omega) (fun j hj => by have := Option.some.inj hj; omega)⟩, by simp [RowKit.intOf]⟩
        · have HK := Lib.hid hkk
          clear hkk
          gi_wp2
          have e : bl[29]'(by rw [HBL.out]; omega) = (fi.h >>> 16).toUInt8 := Option.some.inj (Hby.out.trans rfl)
          obtain ⟨q1, q2⟩ := Hst.out
          rw [e] at q1 q2
          rw [wbyte16 fi.h]
          exact ⟨⟨kk + 1, by have := HK.out; omega, by rw [HK.out] <;> rfl, by rw [HK.out]; exact q1, HB.out.grown q2 (by have := HB.out.size; omega) (fun j hj => by have := Option.some.inj hj; omega)⟩, by simp [RowKit.intOf]⟩
        · have HK := Lib.hid hkk
          clear hkk
          gi_wp2
          have e : bl[30]'(by rw [HBL.out]; omega) = (fi.h >>> 8).toUInt8 := Option.some.inj (Hby.out.trans rfl)
          obtain ⟨q1, q2⟩ := Hst.out
          rw [e] at q1 q2
          rw [wbyte8 fi.h]
          exact ⟨⟨kk + 1, by have := HK.out; omega, by rw [HK.out] <;> rfl, by rw [HK.out]; exact q1, HB.out.grown q2 (by have := HB.out.size; omega) (fun j hj => by have := Option.some.inj hj; omega)⟩, by simp [RowKit.intOf]⟩
        · have HK := Lib.hid hkk
          clear hkk
          gi_wp2
          have e : bl[31]'(by rw [HBL.out]; omega) = fi.h.toUInt8 := Option.some.inj (Hby.out.trans rfl)
          obtain ⟨q1, q2⟩ := Hst.out
          rw [e] at q1 q2
          rw [wbyte0 fi.h]
          exact ⟨⟨kk + 1, by have := HK.out; omega, by rw [HK.out] <;> rfl, by rw [HK.out]; exact q1, HB.out.grown q2 (by have := HB.out.size; omega) (fun j hj => by have := Option.some.inj hj; omega)⟩, by simp [RowKit.intOf]⟩
      · obtain rfl : k = 32 := by omega
        have hc := OwnB.strAsS (P := Tryz.prog) hown Tryz.underlying167 Tryz.underlying5 Tryz.underlying9
        have HB := Lib.hid hB
        clear hown hB
        gi_wp2
        have hDz : D < W.heap.size := (Array.getElem?_eq_some_iff.1 HK'.out).1
        have hK2 : wr.heap[D]? = some (.deferred (some [])) := (HB.out.block _ hDz).trans HK'.out
        refine ⟨by simp, .inl ⟨_, _, rfl, run_takeDeferred hK2, ?_⟩⟩
        refine ⟨_, results_tmp rfl _ _ _, ?_, (A3.out.trans (HB.out.mono A3.out.size)).trans (belowK_b (w := w) (Nat.le_refl _) wr D _ _ (by omega) hK2 rfl rfl)⟩
        rw [← HRES.out]
        show Ending.returned (.string ⟨(bl.take 32).toArray⟩) = _
        rw [List.take_of_length_le (by rw [HBL.out]; exact Nat.le_refl _)]
  case stop =>
    rintro D c pre W hD _ h
    exact h.elim
end Go.Proofs.YtpfmdhcmhcoddaaGreatDoor
