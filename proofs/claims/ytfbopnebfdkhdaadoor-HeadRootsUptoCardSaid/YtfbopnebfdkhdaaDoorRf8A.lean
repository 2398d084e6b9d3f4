/- Contracts of pharosref08.noughts, Number. -/
import Derived.Test.YtfbopnebfdkhdaaDoorRf2C
import Derived.Test.YtfbopnebfdkhdaaDoorHedB
namespace Go.Proofs.YtfbopnebfdkhdaaDoor
open Go.RowKit Go.Shelf Go.Lib
attribute [local go_sem] Oper.semAt_some

set_option maxRecDepth 100000 in
set_option maxHeartbeats 1600000 in
theorem noughts_any (n : Nat) (w : World) (hn : n ≤ 1048576) : Calls Tryd.prog 83 #[.int .i64 n] w fun e w' => e = .returned (.string ⟨(List.replicate n 0).toArray⟩) ∧ Below w.heap.size w w' := by
  obtain ⟨z, hz⟩ : ∃ z : ByteArray, ⟨(List.replicate n 0).toArray⟩ = z := ⟨_, rfl⟩
  rw [hz]
  have HZ := Lib.hid hz
  clear hz
  go_enter Tryd.func83, Tryd.ntmps83
  go_wp2_with (at_make; refine wpList_makeB rfl _ _ 62 rfl w.heap.size 5 Tryd.underlying62 infoByteH n _ _ rfl rfl ?c1 ?c2 ?c3 ?c4 ?_)
  case c1 => rfl
  case c2 => rfl
  case c3 => omega
  case c4 => exact Nat.le_refl _
  intro w1 hown hg1
  have hb1 : Below w.heap.size w w1 := (Below.refl _ _).grown hg1 (Nat.le_refl _) (fun k e => by cases e)
  have hcv : (convert 62 9 (.slice (some ⟨w.heap.size, 0, none⟩) n n)).run Tryd.prog w1 = .ok (.string z) w1 := by
    have := hown.str (P := Tryd.prog) Tryd.underlying62 Tryd.underlying5 Tryd.underlying9
    rw [← HZ.out]
    exact this
  have HB1 := Lib.hid hb1
  clear hown hg1 hb1
  go_wp2
  go_ret
  exact ⟨rfl, HB1.out⟩

theorem numL_take (n k : Nat) (h : k < 8) : (numL n).take (k + 1) = (numL n).take k ++ [UInt8.ofNat (n / 256 ^ k)] := by
  rw [List.take_add_one, numL_at n k h]; rfl
theorem numL_rest (n : Nat) : (⟨((numL n).take 8).toArray⟩ : ByteArray) ++ ⟨(List.replicate 24 0).toArray⟩ = ⟨(numL n).toArray⟩ := by
  refine ByteArray.ext ?_
  rw [ByteArray.data_append]
  unfold numL
  rw [List.take_left' (by simp)]
  simp
set_option maxRecDepth 100000 in
set_option maxHeartbeats 3200000 in
theorem rnumber_any (n : Nat) (w : World) (hn : n < 18446744073709551616) : Calls Tryd.prog 41 #[.int .u64 n] w fun e w' => e = .returned (.string ⟨(numL n).toArray⟩) ∧ Below w.heap.size w w' := by
  have hx := numL_rest n
  obtain ⟨R, hR⟩ : ∃ R : ByteArray, ⟨(numL n).toArray⟩ = R := ⟨_, rfl⟩
  obtain ⟨Z, hZ⟩ : ∃ Z : ByteArray, ⟨(List.replicate 24 0).toArray⟩ = Z := ⟨_, rfl⟩
  have hnz := fun W => noughts_any 24 W (by omega)
  rw [hZ] at hnz
  have hzs : Z.size = 24 := by rw [← hZ]; simp [ByteArray.size]
  have HZS := Lib.hid hzs
  clear hzs
  rw [hR, hZ] at hx
  rw [hR]
  have hbs := numL_take n
  have hll := numL_length n
  obtain ⟨bl, hbl⟩ : ∃ bl, numL n = bl := ⟨_, rfl⟩
  rw [hbl] at hx hbs hll
  have HX := Lib.hid hx
  have HBS := Lib.hid hbs
  have HLL := Lib.hid hll
  have HNZ := Lib.hid hnz
  have HN := Lib.hid hn
  clear hx hR hZ hnz hbs hll hbl hn
  go_enter Tryd.func41, Tryd.ntmps41
  go_wp2_with fail
  go_loopw [3, 4] (fun v i wr => ∃ k : Nat, k ≤ 8 ∧ i = .int .i64 k ∧ Aside (OwnC w.heap.size wr v (bl.take k)) ∧ Aside (Below w.heap.size w wr)) (fun _ i _ => 8 - (RowKit.intOf i).toNat)
  case atStart => exact ⟨0, Nat.zero_le _, rfl, OwnC.nil _ _, Below.refl _ _⟩
  case round =>
    obtain ⟨k, hk, rfl, HO, HB⟩ := hrel
    have hz := HB.out.size
    have hl : (bl.take k).length = k := by rw [List.length_take, HLL.out]; omega
    have HLk := Lib.hid hl
    clear hl
    by_cases h8 : k < 8
    · have hsn := HBS.out k h8
      obtain ⟨b, hbb⟩ : ∃ b, UInt8.ofNat (n / 256 ^ k) = b := ⟨_, rfl⟩
      have hdiv : ((n / 256 ^ k : Nat) : Int) % 256 = (b.toNat : Int) := by rw [← hbb]; simp
      rw [hbb] at hsn
      obtain ⟨U, hU⟩ : ∃ U, bl.take k = U := ⟨_, rfl⟩
      have hO' := HO.out
      rw [hU] at hO' HLk hsn
      have HO' := Lib.hid hO'
      have HSN := Lib.hid hsn
      clear hsn hbb hU hO' HO
      rcases (by omega : k = 0 ∨ k = 1 ∨ k = 2 ∨ k = 3 ∨ k = 4 ∨ k = 5 ∨ k = 6 ∨ k = 7) with rfl | rfl | rfl | rfl | rfl | rfl | rfl | rfl
      · have e1 : IntKind.u8.wrap ((n : Int)) = (b.toNat : Int) := by rw [IntKind.wrap_u8, ← hdiv]; simp
        have e2 : (n : Int) % 256 = (b.toNat : Int) := by rw [← hdiv]; simp
        clear hdiv
        go_wp2_with (at_builtin; refine wpList_appendC rfl _ _ 62 rfl w.heap.size 5 Tryd.underlying62 infoU8 _ U rfl (HO'.out.alloc _) ⟨wr.heap.size, 0, none⟩ 1 1 [b] rfl rfl ?d00 ?d01 ?d02 ?_)
        case d00 => exact cells_new_at rfl (Lib.byteCells [b]) 5
        case d01 => rw [HLk.out]; omega
        case d02 => simp; omega
        intro v3 w3 ho3 hg3
        have hb3 : Below w.heap.size w w3 := (HB.out.alloc hz _).grown hg3 (by simp; omega) (fun k hk => (HO'.out.lt k hk).1)
        rw [← HSN.out] at ho3
        have HO3 := Lib.hid ho3
        have HB3 := Lib.hid hb3
        clear ho3 hg3 hb3 HO' HB e1 e2
        go_wp2
        go_roundw
        case rel => exact ⟨1, by omega, rfl, HO3.out, HB3.out⟩
        case measure => simp [RowKit.intOf]
      · have e1 : IntKind.u8.wrap ((n : Int) / 256) = (b.toNat : Int) := by rw [IntKind.wrap_u8, ← hdiv]; simp
        have e2 : (n : Int) / 256 % 256 = (b.toNat : Int) := by rw [← hdiv]; simp
        clear hdiv
        go_wp2_with (at_builtin; refine wpList_appendC rfl _ _ 62 rfl w.heap.size 5 Tryd.underlying62 infoU8 _ U rfl (HO'.out.alloc _) ⟨wr.heap.size, 0, none⟩ 1 1 [b] rfl rfl ?d10 ?d11 ?d12 ?_)
        case d10 => exact cells_new_at rfl (Lib.byteCells [b]) 5
        case d11 => rw [HLk.out]; omega
        case d12 => simp; omega
        intro v3 w3 ho3 hg3
        have hb3 : Below w.heap.size w w3 := (HB.out.alloc hz _).grown hg3 (by simp; omega) (fun k hk => (HO'.out.lt k hk).1)
        rw [← HSN.out] at ho3
        have HO3 := Lib.hid ho3
        have HB3 := Lib.hid hb3
        clear ho3 hg3 hb3 HO' HB e1 e2
        go_wp2
        go_roundw
        case rel => exact ⟨2, by omega, rfl, HO3.out, HB3.out⟩
        case measure => simp [RowKit.intOf]
      · have e1 : IntKind.u8.wrap ((n : Int) / 65536) = (b.toNat : Int) := by rw [IntKind.wrap_u8, ← hdiv]; simp
        have e2 : (n : Int) / 65536 % 256 = (b.toNat : Int) := by rw [← hdiv]; simp
        clear hdiv
        go_wp2_with (at_builtin; refine wpList_appendC rfl _ _ 62 rfl w.heap.size 5 Tryd.underlying62 infoU8 _ U rfl (HO'.out.alloc _) ⟨wr.heap.size, 0, none⟩ 1 1 [b] rfl rfl ?d20 ?d21 ?d22 ?_)
        case d20 => exact cells_new_at rfl (Lib.byteCells [b]) 5
        case d21 => rw [HLk.out]; omega
        case d22 => simp; omega
        intro v3 w3 ho3 hg3
        have hb3 : Below w.heap.size w w3 := (HB.out.alloc hz _).grown hg3 (by simp; omega) (fun k hk => (HO'.out.lt k hk).1)
        rw [← HSN.out] at ho3
        have HO3 := Lib.hid ho3
        have HB3 := Lib.hid hb3
        clear ho3 hg3 hb3 HO' HB e1 e2
        go_wp2
        go_roundw
        case rel => exact ⟨3, by omega, rfl, HO3.out, HB3.out⟩
        case measure => simp [RowKit.intOf]
      · have e1 : IntKind.u8.wrap ((n : Int) / 16777216) = (b.toNat : Int) := by rw [IntKind.wrap_u8, ← hdiv]; simp
        have e2 : (n : Int) / 16777216 % 256 = (b.toNat : Int) := by rw [← hdiv]; simp
        clear hdiv
        go_wp2_with (at_builtin; refine wpList_appendC rfl _ _ 62 rfl w.heap.size 5 Tryd.underlying62 infoU8 _ U rfl (HO'.out.alloc _) ⟨wr.heap.size, 0, none⟩ 1 1 [b] rfl rfl ?d30 ?d31 ?d32 ?_)
        case d30 => exact cells_new_at rfl (Lib.byteCells [b]) 5
        case d31 => rw [HLk.out]; omega
        case d32 => simp; omega
        intro v3 w3 ho3 hg3
        have hb3 : Below w.heap.size w w3 := (HB.out.alloc hz _).grown hg3 (by simp; omega) (fun k hk => (HO'.out.lt k hk).1)
        rw [← HSN.out] at ho3
        have HO3 := Lib.hid ho3
        have HB3 := Lib.hid hb3
        clear ho3 hg3 hb3 HO' HB e1 e2
        go_wp2
        go_roundw
        case rel => exact ⟨4, by omega, rfl, HO3.out, HB3.out⟩
        case measure => simp [RowKit.intOf]
      · have e1 : IntKind.u8.wrap ((n : Int) / 4294967296) = (b.toNat : Int) := by rw [IntKind.wrap_u8, ← hdiv]; simp
        have e2 : (n : Int) / 4294967296 % 256 = (b.toNat : Int) := by rw [← hdiv]; simp
        clear hdiv
        go_wp2_with (at_builtin; refine wpList_appendC rfl _ _ 62 rfl w.heap.size 5 Tryd.underlying62 infoU8 _ U rfl (HO'.out.alloc _) ⟨wr.heap.size, 0, none⟩ 1 1 [b] rfl rfl ?d40 ?d41 ?d42 ?_)
        case d40 => exact cells_new_at rfl (Lib.byteCells [b]) 5
        case d41 => rw [HLk.out]; omega
        case d42 => simp; omega
        intro v3 w3 ho3 hg3
        have hb3 : Below w.heap.size w w3 := (HB.out.alloc hz _).grown hg3 (by simp; omega) (fun k hk => (HO'.out.lt k hk).1)
        rw [← HSN.out] at ho3
        have HO3 := Lib.hid ho3
        have HB3 := Lib.hid hb3
        clear ho3 hg3 hb3 HO' HB e1 e2
        go_wp2
        go_roundw
        case rel => exact ⟨5, by omega, rfl, HO3.out, HB3.out⟩
        case measure => simp [RowKit.intOf]
      · have e1 : IntKind.u8.wrap ((n : Int) / 1099511627776) = (b.toNat : Int) := by rw [IntKind.wrap_u8, ← hdiv]; simp
        have e2 : (n : Int) / 1099511627776 % 256 = (b.toNat : Int) := by rw [← hdiv]; simp
        clear hdiv
        go_wp2_with (at_builtin; refine wpList_appendC rfl _ _ 62 rfl w.heap.size 5 Tryd.underlying62 infoU8 _ U rfl (HO'.out.alloc _) ⟨wr.heap.size, 0, none⟩ 1 1 [b] rfl rfl ?d50 ?d51 ?d52 ?_)
        case d50 => exact cells_new_at rfl (Lib.byteCells [b]) 5
        case d51 => rw [HLk.out]; omega
        case d52 => simp; omega
        intro v3 w3 ho3 hg3
        have hb3 : Below w.heap.size w w3 := (HB.out.alloc hz _).grown hg3 (by simp; omega) (fun k hk => (HO'.out.lt k hk).1)
        rw [← HSN.out] at ho3
        have HO3 := Lib.hid ho3
        have HB3 := Lib.hid hb3
        clear ho3 hg3 hb3 HO' HB e1 e2
        go_wp2
        go_roundw
        case rel => exact ⟨6, by omega, rfl, HO3.out, HB3.out⟩
        case measure => simp [RowKit.intOf]
      · have e1 : IntKind.u8.wrap ((n : Int) / 281474976710656) = (b.toNat : Int) := by rw [IntKind.wrap_u8, ← hdiv]; simp
        have e2 : (n : Int) / 281474976710656 % 256 = (b.toNat : Int) := by rw [← hdiv]; simp
        clear hdiv
        go_wp2_with (at_builtin; refine wpList_appendC rfl _ _ 62 rfl w.heap.size 5 Tryd.underlying62 infoU8 _ U rfl (HO'.out.alloc _) ⟨wr.heap.size, 0, none⟩ 1 1 [b] rfl rfl ?d60 ?d61 ?d62 ?_)
        case d60 => exact cells_new_at rfl (Lib.byteCells [b]) 5
        case d61 => rw [HLk.out]; omega
        case d62 => simp; omega
        intro v3 w3 ho3 hg3
        have hb3 : Below w.heap.size w w3 := (HB.out.alloc hz _).grown hg3 (by simp; omega) (fun k hk => (HO'.out.lt k hk).1)
        rw [← HSN.out] at ho3
        have HO3 := Lib.hid ho3
        have HB3 := Lib.hid hb3
        clear ho3 hg3 hb3 HO' HB e1 e2
        go_wp2
        go_roundw
        case rel => exact ⟨7, by omega, rfl, HO3.out, HB3.out⟩
        case measure => simp [RowKit.intOf]
      · have e1 : IntKind.u8.wrap ((n : Int) / 72057594037927936) = (b.toNat : Int) := by rw [IntKind.wrap_u8, ← hdiv]; simp
        have e2 : (n : Int) / 72057594037927936 % 256 = (b.toNat : Int) := by rw [← hdiv]; simp
        clear hdiv
        go_wp2_with (at_builtin; refine wpList_appendC rfl _ _ 62 rfl w.heap.size 5 Tryd.underlying62 infoU8 _ U rfl (HO'.out.alloc _) ⟨wr.heap.size, 0, none⟩ 1 1 [b] rfl rfl ?d70 ?d71 ?d72 ?_)
        case d70 => exact cells_new_at rfl (Lib.byteCells [b]) 5
        case d71 => rw [HLk.out]; omega
        case d72 => simp; omega
        intro v3 w3 ho3 hg3
        have hb3 : Below w.heap.size w w3 := (HB.out.alloc hz _).grown hg3 (by simp; omega) (fun k hk => (HO'.out.lt k hk).1)
        rw [← HSN.out] at ho3
        have HO3 := Lib.hid ho3
        have HB3 := Lib.hid hb3
        clear ho3 hg3 hb3 HO' HB e1 e2
        go_wp2
        go_roundw
        case rel => exact ⟨8, by omega, rfl, HO3.out, HB3.out⟩
        case measure => simp [RowKit.intOf]
    · obtain rfl : k = 8 := by omega
      have ho := HO.out
      obtain ⟨X, hX⟩ : ∃ X : ByteArray, ⟨(bl.take 8).toArray⟩ = X := ⟨_, rfl⟩
      have hxx := HX.out
      rw [hX] at hxx
      obtain ⟨p, c, hv⟩ := ho.form
      rw [HLk.out] at hv
      subst hv
      have hS : ∀ W', Below wr.heap.size wr W' → (convert 62 9 (.slice p 8 c)).run Tryd.prog W' = .ok (.string X) W' := fun W' hb => by
        rw [← hX]
        exact (ho.below hb (Nat.le_refl _)).str (P := Tryd.prog) Tryd.underlying62 Tryd.underlying5 Tryd.underlying9
      have HS := Lib.hid hS
      have HXX := Lib.hid hxx
      have g9 : ¬ 9223372036854775807 < X.size + Z.size := by
        have e1 : X.size = 8 := by rw [← hX]; exact HLk.out
        have e2 := HZS.out
        omega
      clear hS hxx hX ho HO
      go_wp2_with fail
      have b0 : Below wr.heap.size wr wr.drew := (Below.refl _ _).drew
      refine wp_region_held_drew (S := (fun W => (convert 62 9 (.slice p 8 c)).run Tryd.prog W = .ok (.string X) W)) (by kernel_rfl) (HS.out _ b0) (fun hHeld => ?_)
      refine wpAnyH_take (i := 0) (v := ?_) rfl (by kernel_rfl) (by kernel_rfl) (by kernel_rfl) (fun _ _ _ h => h) (.inl ⟨by rfl, ?_⟩) (by assumption) ?_
      rotate_left 1
      · intro w0 hSw
        go_simp <;> with_reducible rfl
      try simp only [Act.put, List.getElem_toArray, List.getElem_cons_zero, List.setIfInBounds_toArray, List.set_cons_zero, List.set_cons_succ]
      refine wpAnyH_take (i := 1) (v := ?_) rfl (by kernel_rfl) (by kernel_rfl) (by kernel_rfl) (fun _ _ _ h => h) (.inl ⟨by rfl, ?_⟩) (by assumption) ?_
      rotate_left 1
      · intro w0 hSw
        go_simp <;> with_reducible rfl
      try simp only [Act.put, List.getElem_toArray, List.getElem_cons_zero, List.getElem_cons_succ, List.setIfInBounds_toArray, List.set_cons_zero, List.set_cons_succ]
      refine wpAnyH_ready (rs := [2]) (by kernel_rfl) (by simp) ?_
      refine AllReadyH.cons rfl (fun K hK => ?_) AllReadyH.nil
      go_simp
      go_at_call 83
      refine (HNZ.out _).mono ?_
      rintro e w2 ⟨rfl, hb2⟩
      have b1 : Below wr.heap.size wr w2 := b0.trans hb2
      clear hb2
      refine hK.out _ _ (HS.out _ b1) (fun hHeld => ?_)
      clear hK K
      try simp only [Act.put, List.getElem_toArray, List.getElem_cons_zero, List.getElem_cons_succ, List.setIfInBounds_toArray, List.set_cons_zero, List.set_cons_succ]
      refine wpAnyH_take (i := 3) (v := ?_) rfl (by kernel_rfl) (by kernel_rfl) (by kernel_rfl) (fun _ _ _ h => h) (.inl ⟨by rfl, ?_⟩) (by assumption) ?_
      rotate_left 1
      · intro w0 hSw
        go_simp <;> with_reducible rfl
      try simp only [Act.put, List.getElem_toArray, List.getElem_cons_zero, List.getElem_cons_succ, List.setIfInBounds_toArray, List.set_cons_zero, List.set_cons_succ]
      refine wpAnyH_take (i := 4) (v := ?_) rfl (by kernel_rfl) (by kernel_rfl) (by kernel_rfl) (fun _ _ _ h => h) (.inl ⟨by rfl, ?_⟩) (by assumption) ?_
      rotate_left 1
      · intro w0 hSw
        go_simp <;> with_reducible rfl
      try simp only [Act.put, List.getElem_toArray, List.getElem_cons_zero, List.getElem_cons_succ, List.setIfInBounds_toArray, List.set_cons_zero, List.set_cons_succ]
      refine wpAnyH_done (by kernel_rfl) ?_ 0
      go_wp2
      go_ret
      exact ⟨congrArg (fun x => Ending.returned (Value.string x)) HXX.out, HB.out.trans (b1.mono HB.out.size)⟩
end Go.Proofs.YtfbopnebfdkhdaaDoor
