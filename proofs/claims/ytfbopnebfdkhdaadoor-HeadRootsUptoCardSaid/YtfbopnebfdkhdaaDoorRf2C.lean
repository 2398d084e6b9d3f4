/- Contract of pharosref02.padded: a text's blocks. -/
import Derived.Test.YtfbopnebfdkhdaaDoorRf2B
import Derived.Test.YtfbopnebfdkhdaaDoorKitC
import Derived.Test.YtfbopnebfdkhdaaDoorShaE
namespace Go.Proofs.YtfbopnebfdkhdaaDoor
open Go.RowKit Go.Shelf Go.Lib
attribute [local go_sem] Oper.semAt_some

theorem infoU8 : (Tryd.prog.info? 5).map (fun i => (i.zero, i.size, i.bytes)) = some (some (.int .u8 0), 1, 1) := by kernel_rfl
/-- what a call gives that makes a row of bytes -/
def GivesC (w : World) (l : List UInt8) (e : Ending) (w' : World) : Prop := ∃ v, e = .returned v ∧ OwnC w.heap.size w' v l ∧ Below w.heap.size w w'
theorem wpList_haltConv {P : Program} {ops : Array Oper} {rest : List Oper} {op : Oper} {a : Act} {w : World} {Q : Exit → Act → World → Prop} (src dst : TypeId) (x : Operand) (_ho : op.op = .convert src dst x)
    (h : Halt (wpList P ops Q (op :: rest) a w)) : wpList P ops Q (op :: rest) a w := h

set_option maxRecDepth 100000 in
set_option maxHeartbeats 3200000 in
theorem padded_any (s : ByteArray) (w : World) (hs : s.size ≤ 1099511627776) : Calls Tryd.prog 78 #[.string s] w (GivesC w (pad s.data.toList)) := by
  have hlen : s.data.toList.length = s.size := rfl
  have hpad : pad s.data.toList = (s.data.toList ++ 128 :: List.replicate ((119 - s.size % 64) % 64) 0) ++ be 8 (8 * s.size) := by
    unfold pad padTail
    rw [hlen, Nat.mod_eq_of_lt (show 8 * s.size < 18446744073709551616 by omega)]
    simp
  rw [hpad]
  obtain ⟨R, hR⟩ : ∃ R, (s.data.toList ++ 128 :: List.replicate ((119 - s.size % 64) % 64) 0) ++ be 8 (8 * s.size) = R := ⟨_, rfl⟩
  rw [hR]
  have HR := Lib.hid hR
  have HL := Lib.hid hlen
  clear hpad hlen hR
  go_enter Tryd.func78, Tryd.ntmps78
  go_wp2_with (with_reducible refine wpList_haltConv 9 62 _ rfl ?_)
  refine Halt.mk ?_
  refine wpList_bytesOf rfl 9 62 _ rfl 5 Tryd.underlying9 Tryd.underlying62 Tryd.underlying5 s rfl ?_
  intro v1 w1 ho1 hg1
  have hb1 : Below w.heap.size w w1 := (Below.refl _ _).grown hg1 (Nat.le_refl _) (fun r e => by cases e)
  have hz1 := hb1.size
  obtain ⟨p1, c1, hv1⟩ := ho1.form
  have HV1 := Lib.hid hv1
  have HO1 := Lib.hid ho1
  have HB1 := Lib.hid hb1
  clear hv1 ho1 hg1 hb1
  go_wp2_with (at_builtin; refine wpList_appendC rfl _ _ 62 rfl w.heap.size 5 Tryd.underlying62 infoU8 _ s.data.toList rfl (HO1.out.alloc _) ⟨w1.heap.size, 0, none⟩ 1 1 [128] rfl rfl ?c0 ?c1 ?c2 ?_)
  case c0 => exact cells_new_at rfl (Lib.byteCells [128]) 5
  case c1 => rw [HL.out]; omega
  case c2 => simp; omega
  intro v2 w2 ho2 hg2
  have hb2 : Below w.heap.size w w2 := (HB1.out.alloc hz1 _).grown hg2 (by simp; omega) (fun k hk => (HO1.out.lt k hk).1)
  have HO2 := Lib.hid ho2
  have HB2 := Lib.hid hb2
  clear ho2 hg2 hb2 HO1 HB1 HV1
  go_wp2_with fail
  go_loopw [3] (fun v wr => ∃ j : Nat, j ≤ (119 - s.size % 64) % 64 ∧ Aside (OwnC w.heap.size wr v (s.data.toList ++ 128 :: List.replicate j 0)) ∧ Aside (Below w.heap.size w wr)) (fun v _ => (119 - s.size % 64) % 64 + 1 + s.size - (match v with | .slice _ n _ => n | _ => 0))
  case atStart => exact ⟨0, Nat.zero_le _, HO2.out, HB2.out⟩
  case round =>
    clear HO2 HB2
    obtain ⟨j, hj, HO, HB⟩ := hrel
    obtain ⟨p, c, hv⟩ := HO.out.form
    have hn : (s.data.toList ++ 128 :: List.replicate j 0).length = s.size + 1 + j := by
      rw [List.length_append, HL.out, List.length_cons, List.length_replicate]; omega
    rw [hn] at hv
    obtain ⟨n, hn'⟩ : ∃ n, s.size + 1 + j = n := ⟨_, rfl⟩
    rw [hn'] at hv
    subst hv
    have HN := Lib.hid hn'
    have HN2 := Lib.hid hn
    clear hn' hn
    have hz := HB.out.size
    obtain ⟨L, hL⟩ : ∃ L, s.data.toList ++ 128 :: List.replicate j 0 = L := ⟨_, rfl⟩
    have hO' := HO.out
    rw [hL] at HN2 hO'
    have HO' := Lib.hid hO'
    have HLj := Lib.hid hL
    clear hO' hL HO
    by_cases hlt : j < (119 - s.size % 64) % 64
    · have t1 : ((n : Int) % 64 != 56) = true := by
        have := HN.out
        simp only [bne_iff_ne, ne_eq]; omega
      go_wp2_with (at_builtin; refine wpList_appendC rfl _ _ 62 rfl w.heap.size 5 Tryd.underlying62 infoU8 _ L rfl (HO'.out.alloc _) ⟨wr.heap.size, 0, none⟩ 1 1 [0] rfl rfl ?c3 ?c4 ?c5 ?_)
      case c3 => exact cells_new_at rfl (Lib.byteCells [0]) 5
      case c4 => rw [HN2.out]; omega
      case c5 => simp; omega
      intro v3 w3 ho3 hg3
      have hb3 : Below w.heap.size w w3 := (HB.out.alloc hz _).grown hg3 (by simp; omega) (fun k hk => (HO'.out.lt k hk).1)
      have hl3 : L ++ [0] = s.data.toList ++ 128 :: List.replicate (j + 1) 0 := by
        rw [← HLj.out, List.replicate_succ', List.append_assoc]; rfl
      rw [hl3] at ho3
      obtain ⟨p3, c3, hv3⟩ := ho3.form
      have hl4 : (s.data.toList ++ 128 :: List.replicate (j + 1) 0).length = n + 1 := by rw [List.length_append, HL.out, List.length_cons, List.length_replicate, ← HN.out]; omega
      rw [hl4] at hv3
      subst hv3
      have HO3 := Lib.hid ho3
      have HB3 := Lib.hid hb3
      clear ho3 hg3 hb3 hl3 hl4 HO' HB t1
      go_wp2
      go_roundw
      case rel => exact ⟨j + 1, by omega, HO3.out, HB3.out⟩
      case measure => have := HN.out; simp; omega
    · obtain rfl : j = (119 - s.size % 64) % 64 := by omega
      have t1 : ((n : Int) % 64 != 56) = false := by
        have := HN.out
        simp only [bne_eq_false_iff_eq]; omega
      obtain ⟨T, hT⟩ : ∃ T, L = T := ⟨_, rfl⟩
      have hTn : T.length = n := by rw [← hT, HN2.out, HN.out]
      have hnT : T.length ≤ 1099511627776 + 65 := by rw [← hT, HN2.out]; omega
      have ho := HO'.out
      rw [hT] at ho
      have HO2 := Lib.hid ho
      have HTN := Lib.hid hTn
      have g0 : (0 : Int) ≤ (s.size : Int) := by omega
      have g1 : (s.size : Int) ≤ 1099511627776 := by omega
      obtain ⟨N, hN⟩ : ∃ N, 8 * s.size = N := ⟨_, rfl⟩
      obtain ⟨bl, hbl⟩ : ∃ bl, be 8 N = bl := ⟨_, rfl⟩
      have hNi : 8 * (s.size : Int) = (N : Int) := by omega
      have hRT : T ++ bl = R := by rw [← HR.out, ← hbl, ← hN, ← hT, ← HLj.out]
      have HRT := Lib.hid hRT
      have hbs : ∀ k, k < 8 → bl.take (k + 1) = bl.take k ++ [UInt8.ofNat (N / 256 ^ (8 - 1 - k))] := fun k hk => by rw [← hbl]; exact be_takeS 8 N k hk
      have hbl8 : bl.length = 8 := by rw [← hbl]; exact be_length 8 N
      have HBS := Lib.hid hbs
      have HB8 := Lib.hid hbl8
      have HNI := Lib.hid hNi
      clear ho hRT HR hT hTn hbl hN hNi hbs hbl8 HO' HN HN2 HLj hlt hj
      go_wp2_with fail
      rw [HNI.out]
      go_loopw [3, 5] (fun v i wr => ∃ k : Nat, k ≤ 8 ∧ i = .int .i64 (7 - (k : Int)) ∧ Aside (OwnC w.heap.size wr v (T ++ bl.take k)) ∧ Aside (Below w.heap.size w wr)) (fun _ i _ => (RowKit.intOf i + 1).toNat)
      case atStart => exact ⟨0, by omega, rfl, (by rw [List.take_zero, List.append_nil]; exact HO2.out), HB.out⟩
      case round =>
        clear HO2 HB hz t1
        obtain ⟨k, hk, rfl, HO, HB⟩ := hrel
        have hz := HB.out.size
        have hl : (T ++ bl.take k).length = T.length + k := by rw [List.length_append, List.length_take, HB8.out]; omega
        have HLk := Lib.hid hl
        clear hl
        by_cases h8 : k < 8
        · have hsn := HBS.out k h8
          obtain ⟨b, hbb⟩ : ∃ b, UInt8.ofNat (N / 256 ^ (8 - 1 - k)) = b := ⟨_, rfl⟩
          have hdiv : ((N / 256 ^ (8 - 1 - k) : Nat) : Int) % 256 = (b.toNat : Int) := by rw [← hbb]; simp
          rw [hbb] at hsn
          obtain ⟨U, hU⟩ : ∃ U, T ++ bl.take k = U := ⟨_, rfl⟩
          have hsu : T ++ bl.take (k + 1) = U ++ [b] := by rw [← hU, hsn, List.append_assoc]
          have hO' := HO.out
          rw [hU] at hO' HLk
          have HO' := Lib.hid hO'
          have HSN := Lib.hid hsu
          clear hsn hbb hsu hU hO' HO
          obtain ⟨kk, hkk⟩ : ∃ kk, kk = k := ⟨_, rfl⟩
          have HKK := Lib.hid hkk
          clear hkk
          rcases (by omega : k = 0 ∨ k = 1 ∨ k = 2 ∨ k = 3 ∨ k = 4 ∨ k = 5 ∨ k = 6 ∨ k = 7) with rfl | rfl | rfl | rfl | rfl | rfl | rfl | rfl
          · rw [show (7 - ((0 : Nat) : Int)) = 7 from rfl]
            have e1 : IntKind.u8.wrap ((N : Int) / 72057594037927936) = (b.toNat : Int) := by rw [IntKind.wrap_u8, ← hdiv]; simp
            have e2 : (N : Int) / 72057594037927936 % 256 = (b.toNat : Int) := by rw [← hdiv]; simp
            clear hdiv
            go_wp2_with (at_builtin; refine wpList_appendC rfl _ _ 62 rfl w.heap.size 5 Tryd.underlying62 infoU8 _ U rfl (HO'.out.alloc _) ⟨wr.heap.size, 0, none⟩ 1 1 [b] rfl rfl ?d00 ?d01 ?d02 ?_)
            case d00 => exact cells_new_at rfl (Lib.byteCells [b]) 5
            case d01 => rw [HLk.out]; omega
            case d02 => simp; omega
            intro v3 w3 ho3 hg3
            have hb3 : Below w.heap.size w w3 := (HB.out.alloc hz _).grown hg3 (by simp; omega) (fun k hk => (HO'.out.lt k hk).1)
            rw [← HSN.out] at ho3
            have HO3 := Lib.hid ho3
            have HB3 := Lib.hid hb3
            clear ho3 hg3 hb3 HO' HB e1 e2
            go_wp2
            go_roundw
            case rel => exact ⟨1, by omega, rfl, HO3.out, HB3.out⟩
            case measure => simp [RowKit.intOf]
          · rw [show (7 - ((1 : Nat) : Int)) = 6 from rfl]
            have e1 : IntKind.u8.wrap ((N : Int) / 281474976710656) = (b.toNat : Int) := by rw [IntKind.wrap_u8, ← hdiv]; simp
            have e2 : (N : Int) / 281474976710656 % 256 = (b.toNat : Int) := by rw [← hdiv]; simp
            clear hdiv
            go_wp2_with (at_builtin; refine wpList_appendC rfl _ _ 62 rfl w.heap.size 5 Tryd.underlying62 infoU8 _ U rfl (HO'.out.alloc _) ⟨wr.heap.size, 0, none⟩ 1 1 [b] rfl rfl ?d10 ?d11 ?d12 ?_)
            case d10 => exact cells_new_at rfl (Lib.byteCells [b]) 5
            case d11 => rw [HLk.out]; omega
            case d12 => simp; omega
            intro v3 w3 ho3 hg3
            have hb3 : Below w.heap.size w w3 := (HB.out.alloc hz _).grown hg3 (by simp; omega) (fun k hk => (HO'.out.lt k hk).1)
            rw [← HSN.out] at ho3
            have HO3 := Lib.hid ho3
            have HB3 := Lib.hid hb3
            clear ho3 hg3 hb3 HO' HB e1 e2
            go_wp2
            go_roundw
            case rel => exact ⟨2, by omega, rfl, HO3.out, HB3.out⟩
            case measure => simp [RowKit.intOf]
          · rw [show (7 - ((2 : Nat) : Int)) = 5 from rfl]
            have e1 : IntKind.u8.wrap ((N : Int) / 1099511627776) = (b.toNat : Int) := by rw [IntKind.wrap_u8, ← hdiv]; simp
            have e2 : (N : Int) / 1099511627776 % 256 = (b.toNat : Int) := by rw [← hdiv]; simp
            clear hdiv
            go_wp2_with (at_builtin; refine wpList_appendC rfl _ _ 62 rfl w.heap.size 5 Tryd.underlying62 infoU8 _ U rfl (HO'.out.alloc _) ⟨wr.heap.size, 0, none⟩ 1 1 [b] rfl rfl ?d20 ?d21 ?d22 ?_)
            case d20 => exact cells_new_at rfl (Lib.byteCells [b]) 5
            case d21 => rw [HLk.out]; omega
            case d22 => simp; omega
            intro v3 w3 ho3 hg3
            have hb3 : Below w.heap.size w w3 := (HB.out.alloc hz _).grown hg3 (by simp; omega) (fun k hk => (HO'.out.lt k hk).1)
            rw [← HSN.out] at ho3
            have HO3 := Lib.hid ho3
            have HB3 := Lib.hid hb3
            clear ho3 hg3 hb3 HO' HB e1 e2
            go_wp2
            go_roundw
            case rel => exact ⟨3, by omega, rfl, HO3.out, HB3.out⟩
            case measure => simp [RowKit.intOf]
          · rw [show (7 - ((3 : Nat) : Int)) = 4 from rfl]
            have e1 : IntKind.u8.wrap ((N : Int) / 4294967296) = (b.toNat : Int) := by rw [IntKind.wrap_u8, ← hdiv]; simp
            have e2 : (N : Int) / 4294967296 % 256 = (b.toNat : Int) := by rw [← hdiv]; simp
            clear hdiv
            go_wp2_with (at_builtin; refine wpList_appendC rfl _ _ 62 rfl w.heap.size 5 Tryd.underlying62 infoU8 _ U rfl (HO'.out.alloc _) ⟨wr.heap.size, 0, none⟩ 1 1 [b] rfl rfl ?d30 ?d31 ?d32 ?_)
            case d30 => exact cells_new_at rfl (Lib.byteCells [b]) 5
            case d31 => rw [HLk.out]; omega
            case d32 => simp; omega
            intro v3 w3 ho3 hg3
            have hb3 : Below w.heap.size w w3 := (HB.out.alloc hz _).grown hg3 (by simp; omega) (fun k hk => (HO'.out.lt k hk).1)
            rw [← HSN.out] at ho3
            have HO3 := Lib.hid ho3
            have HB3 := Lib.hid hb3
            clear ho3 hg3 hb3 HO' HB e1 e2
            go_wp2
            go_roundw
            case rel => exact ⟨4, by omega, rfl, HO3.out, HB3.out⟩
            case measure => simp [RowKit.intOf]
          · rw [show (7 - ((4 : Nat) : Int)) = 3 from rfl]
            have e1 : IntKind.u8.wrap ((N : Int) / 16777216) = (b.toNat : Int) := by rw [IntKind.wrap_u8, ← hdiv]; simp
            have e2 : (N : Int) / 16777216 % 256 = (b.toNat : Int) := by rw [← hdiv]; simp
            clear hdiv
            go_wp2_with (at_builtin; refine wpList_appendC rfl _ _ 62 rfl w.heap.size 5 Tryd.underlying62 infoU8 _ U rfl (HO'.out.alloc _) ⟨wr.heap.size, 0, none⟩ 1 1 [b] rfl rfl ?d40 ?d41 ?d42 ?_)
            case d40 => exact cells_new_at rfl (Lib.byteCells [b]) 5
            case d41 => rw [HLk.out]; omega
            case d42 => simp; omega
            intro v3 w3 ho3 hg3
            have hb3 : Below w.heap.size w w3 := (HB.out.alloc hz _).grown hg3 (by simp; omega) (fun k hk => (HO'.out.lt k hk).1)
            rw [← HSN.out] at ho3
            have HO3 := Lib.hid ho3
            have HB3 := Lib.hid hb3
            clear ho3 hg3 hb3 HO' HB e1 e2
            go_wp2
            go_roundw
            case rel => exact ⟨5, by omega, rfl, HO3.out, HB3.out⟩
            case measure => simp [RowKit.intOf]
          · rw [show (7 - ((5 : Nat) : Int)) = 2 from rfl]
            have e1 : IntKind.u8.wrap ((N : Int) / 65536) = (b.toNat : Int) := by rw [IntKind.wrap_u8, ← hdiv]; simp
            have e2 : (N : Int) / 65536 % 256 = (b.toNat : Int) := by rw [← hdiv]; simp
            clear hdiv
            go_wp2_with (at_builtin; refine wpList_appendC rfl _ _ 62 rfl w.heap.size 5 Tryd.underlying62 infoU8 _ U rfl (HO'.out.alloc _) ⟨wr.heap.size, 0, none⟩ 1 1 [b] rfl rfl ?d50 ?d51 ?d52 ?_)
            case d50 => exact cells_new_at rfl (Lib.byteCells [b]) 5
            case d51 => rw [HLk.out]; omega
            case d52 => simp; omega
            intro v3 w3 ho3 hg3
            have hb3 : Below w.heap.size w w3 := (HB.out.alloc hz _).grown hg3 (by simp; omega) (fun k hk => (HO'.out.lt k hk).1)
            rw [← HSN.out] at ho3
            have HO3 := Lib.hid ho3
            have HB3 := Lib.hid hb3
            clear ho3 hg3 hb3 HO' HB e1 e2
            go_wp2
            go_roundw
            case rel => exact ⟨6, by omega, rfl, HO3.out, HB3.out⟩
            case measure => simp [RowKit.intOf]
          · rw [show (7 - ((6 : Nat) : Int)) = 1 from rfl]
            have e1 : IntKind.u8.wrap ((N : Int) / 256) = (b.toNat : Int) := by rw [IntKind.wrap_u8, ← hdiv]; simp
            have e2 : (N : Int) / 256 % 256 = (b.toNat : Int) := by rw [← hdiv]; simp
            clear hdiv
            go_wp2_with (at_builtin; refine wpList_appendC rfl _ _ 62 rfl w.heap.size 5 Tryd.underlying62 infoU8 _ U rfl (HO'.out.alloc _) ⟨wr.heap.size, 0, none⟩ 1 1 [b] rfl rfl ?d60 ?d61 ?d62 ?_)
            case d60 => exact cells_new_at rfl (Lib.byteCells [b]) 5
            case d61 => rw [HLk.out]; omega
            case d62 => simp; omega
            intro v3 w3 ho3 hg3
            have hb3 : Below w.heap.size w w3 := (HB.out.alloc hz _).grown hg3 (by simp; omega) (fun k hk => (HO'.out.lt k hk).1)
            rw [← HSN.out] at ho3
            have HO3 := Lib.hid ho3
            have HB3 := Lib.hid hb3
            clear ho3 hg3 hb3 HO' HB e1 e2
            go_wp2
            go_roundw
            case rel => exact ⟨7, by omega, rfl, HO3.out, HB3.out⟩
            case measure => simp [RowKit.intOf]
          · rw [show (7 - ((7 : Nat) : Int)) = 0 from rfl]
            have e1 : IntKind.u8.wrap ((N : Int)) = (b.toNat : Int) := by rw [IntKind.wrap_u8, ← hdiv]; simp
            have e2 : (N : Int) % 256 = (b.toNat : Int) := by rw [← hdiv]; simp
            clear hdiv
            go_wp2_with (at_builtin; refine wpList_appendC rfl _ _ 62 rfl w.heap.size 5 Tryd.underlying62 infoU8 _ U rfl (HO'.out.alloc _) ⟨wr.heap.size, 0, none⟩ 1 1 [b] rfl rfl ?d70 ?d71 ?d72 ?_)
            case d70 => exact cells_new_at rfl (Lib.byteCells [b]) 5
            case d71 => rw [HLk.out]; omega
            case d72 => simp; omega
            intro v3 w3 ho3 hg3
            have hb3 : Below w.heap.size w w3 := (HB.out.alloc hz _).grown hg3 (by simp; omega) (fun k hk => (HO'.out.lt k hk).1)
            rw [← HSN.out] at ho3
            have HO3 := Lib.hid ho3
            have HB3 := Lib.hid hb3
            clear ho3 hg3 hb3 HO' HB e1 e2
            go_wp2
            go_roundw
            case rel => exact ⟨8, by omega, rfl, HO3.out, HB3.out⟩
            case measure => simp [RowKit.intOf]
        · obtain rfl : k = 8 := by omega
          rw [show (7 - ((8 : Nat) : Int)) = -1 from rfl]
          have ho := HO.out
          rw [List.take_of_length_le (by rw [HB8.out]; omega), HRT.out] at ho
          have HO3 := Lib.hid ho
          clear ho HO
          go_wp2
          go_ret
          exact ⟨_, rfl, HO3.out, HB.out⟩
end Go.Proofs.YtfbopnebfdkhdaaDoor
