/- Contract of pharosref08.Way for a branch of two and the place 2. -/
import Derived.Test.YtfbopnebfdkhdaaDoorRf8D
namespace Go.Proofs.YtfbopnebfdkhdaaDoor
open Go.RowKit Go.Shelf Go.Lib
attribute [local go_sem] Oper.semAt_some

theorem shaB_size (s : ByteArray) : (shaB s).size = 32 := by
  unfold shaB shaOf sumOf St.list
  simp [ByteArray.size, bytes32]
set_option maxRecDepth 100000 in
set_option maxHeartbeats 3200000 in
theorem rway2_any (leaf s0 s1 : ByteArray) (v : Value) (w : World) (hv : Strs w v [s0, s1]) (h1 : leaf.size ≤ 1048576) (h2 : s0.size ≤ 1048576) (h3 : s1.size ≤ 1048576) :
    Calls Tryd.prog 16 #[.string leaf, v, .int .u64 2] w fun e w' => ∃ vl, e = .returned (.tuple #[vl, .string (shaB (s1 ++ shaB (leaf ++ s0)))]) ∧ OwnS w.heap.size w' vl [leaf ++ s0, s1 ++ shaB (leaf ++ s0)] ∧ Below w.heap.size w w' := by
  obtain ⟨p, c, rfl, hc, hcell⟩ := hv
  obtain ⟨bk, o, rfl, hbk, hcl⟩ := hcell.resolve_left (by simp)
  have hS : ∀ W, Below w.heap.size w W → W.cell? ⟨bk, o, none⟩ = some (.string s0) ∧ W.cell? ⟨bk, o + 1, none⟩ = some (.string s1) := fun W hb =>
    ⟨(hb.cell (p := ⟨bk, o, none⟩) hbk).trans (by simpa using hcl 0 s0 rfl), (hb.cell (p := ⟨bk, o + 1, none⟩) hbk).trans (hcl 1 s1 rfl)⟩
  have hx : (shaB (leaf ++ s0)).size = 32 := shaB_size _
  have e1 : (leaf ++ s0).size = leaf.size + s0.size := ByteArray.size_append
  have hs1 := fun W => rsum_shaB (leaf ++ s0) W (by omega)
  obtain ⟨x, hxx⟩ : ∃ x, shaB (leaf ++ s0) = x := ⟨_, rfl⟩
  rw [hxx] at hx hs1 ⊢
  have e2 : (s1 ++ x).size = s1.size + x.size := ByteArray.size_append
  have hs2 := fun W => rsum_shaB (s1 ++ x) W (by omega)
  obtain ⟨y, hyy⟩ : ∃ y, shaB (s1 ++ x) = y := ⟨_, rfl⟩
  rw [hyy] at hs2 ⊢
  have HS := Lib.hid hS
  have H1 := Lib.hid hs1
  have H2 := Lib.hid hs2
  have g1 : ¬ 9223372036854775807 < leaf.size + s0.size := by omega
  have g2 : ¬ 9223372036854775807 < x.size + s1.size := by omega
  have g3 : ¬ 9223372036854775807 < s1.size + x.size := by omega
  clear hcell hcl hS hx e1 e2 hs1 hs2 hxx hyy h1 h2 h3
  go_enter Tryd.func16, Tryd.ntmps16
  go_wp2_with fail
  go_loopw [8, 9, 10] (fun v t i wr => Aside (Below w.heap.size w wr) ∧ ((v = .slice none 0 0 ∧ t = .string leaf ∧ i = .int .i64 0) ∨ (t = .string x ∧ i = .int .i64 1 ∧ Aside (OwnS w.heap.size wr v [leaf ++ s0])) ∨ (t = .string y ∧ i = .int .i64 2 ∧ Aside (OwnS w.heap.size wr v [leaf ++ s0, s1 ++ x])))) (fun _ _ i _ => 2 - (RowKit.intOf i).toNat)
  case atStart => exact ⟨Below.refl _ _, .inl ⟨rfl, rfl, rfl⟩⟩
  case round =>
    obtain ⟨HB, ⟨rfl, rfl, rfl⟩ | ⟨rfl, rfl, HO⟩ | ⟨rfl, rfl, HO⟩⟩ := hrel
    · obtain ⟨c0, c1⟩ := HS.out wr HB.out
      have hz := HB.out.size
      go_wp2_with (at_builtin; refine wpList_appendT rfl _ _ 30 rfl w.heap.size Tryd.underlying30 infoStr _ [] rfl (OwnS.nil _ _) ⟨wr.heap.size, 0, none⟩ 1 (leaf ++ s0) rfl ?c0 ?c1 ?c2 ?_)
      case c0 => exact cells_new_at rfl [.string (leaf ++ s0)] 9 0 _ rfl
      case c1 => simp
      case c2 => simp; omega
      intro v3 w3 ho3 hg3
      have hb3 : Below w.heap.size w w3 := (HB.out.alloc hz _).grown hg3 (by simp; omega) (fun r e => by cases e)
      obtain ⟨p3, c3, hv3⟩ := ho3.form
      simp only [List.length_singleton] at hv3
      subst hv3
      have HO3 := Lib.hid (show OwnS w.heap.size w3 (.slice p3 1 c3) [leaf ++ s0] from ho3)
      have HB3 := Lib.hid hb3
      clear ho3 hg3 hb3 HB c0 c1
      go_wp2_with fail
      refine (H1.out _).mono ?_
      rintro e w4 ⟨rfl, hb4⟩
      have HO4 := Lib.hid (HO3.out.after hb4)
      have HB4 := Lib.hid (HB3.out.trans (hb4.mono HB3.out.size))
      clear hb4 HO3 HB3
      go_wp2
      go_roundw
      case rel => exact ⟨HB4.out, .inr (.inl ⟨rfl, rfl, HO4.out⟩)⟩
      case measure => simp [RowKit.intOf]
    · obtain ⟨c0, c1⟩ := HS.out wr HB.out
      have hz := HB.out.size
      have ho := HO.out
      obtain ⟨pv, cv, hv⟩ := ho.form
      rw [List.length_singleton] at hv
      subst hv
      have HO1 := Lib.hid ho
      clear ho HO
      go_wp2_with (at_builtin; refine wpList_appendT rfl _ _ 30 rfl w.heap.size Tryd.underlying30 infoStr _ [leaf ++ s0] rfl (HO1.out.alloc _) ⟨wr.heap.size, 0, none⟩ 1 (s1 ++ x) rfl ?d0 ?d1 ?d2 ?_)
      case d0 => exact cells_new_at rfl [.string (s1 ++ x)] 9 0 _ rfl
      case d1 => simp
      case d2 => simp; omega
      intro v3 w3 ho3 hg3
      have hb3 : Below w.heap.size w w3 := (HB.out.alloc hz _).grown hg3 (by simp; omega) (fun r e => (HO1.out.lt r e).1)
      obtain ⟨p3, c3, hv3⟩ := ho3.form
      simp only [List.length_cons, List.length_nil] at hv3
      subst hv3
      have HO3 := Lib.hid (show OwnS w.heap.size w3 (.slice p3 2 c3) [leaf ++ s0, s1 ++ x] from ho3)
      have HB3 := Lib.hid hb3
      clear ho3 hg3 hb3 HB c0 c1 HO1
      go_wp2_with fail
      refine (H2.out _).mono ?_
      rintro e w4 ⟨rfl, hb4⟩
      have HO4 := Lib.hid (HO3.out.after hb4)
      have HB4 := Lib.hid (HB3.out.trans (hb4.mono HB3.out.size))
      clear hb4 HO3 HB3
      go_wp2
      go_roundw
      case rel => exact ⟨HB4.out, .inr (.inr ⟨rfl, rfl, HO4.out⟩)⟩
      case measure => simp [RowKit.intOf]
    · have ho := HO.out
      obtain ⟨pv, cv, hv⟩ := ho.form
      subst hv
      have HO1 := Lib.hid ho
      clear ho HO
      go_wp2
      go_ret2
      exact ⟨_, rfl, HO1.out, HB.out⟩
end Go.Proofs.YtfbopnebfdkhdaaDoor
