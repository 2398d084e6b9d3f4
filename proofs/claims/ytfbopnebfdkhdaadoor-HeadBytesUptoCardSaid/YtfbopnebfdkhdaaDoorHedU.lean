/- An argument that is a Boot, or an Update: what it reads as. -/
import Derived.Test.YtfbopnebfdkhdaaDoorHedQ
namespace Go.Proofs.YtfbopnebfdkhdaaDoor
open Go.RowKit Go.ChangeShapes Go.WideShapes

set_option maxRecDepth 100000 in
theorem boot_of_trod {H : Type} {enc : TypeId × Value → H} {W : World} {fuel : Nat} {cs : List Value} {x : DataW H × List MemPlace} (h : DataW.trod enc Tryd.prog W 0 (fun _ => true) true fuel 48 cs = some x) :
    ∃ (nb0 mb0 : Nat) (ab0 bb0 cb0 db0 eb0 : ByteArray) (kb0 : Nat) (Vb0 : Value) (brb0 : List ByteArray) (Vb1 : Value) (brb1 : List ByteArray) (sb1 : ByteArray) (Vb2 : Value) (brb2 : List ByteArray), cs = [.int .u64 nb0, .int .u64 mb0, .string ab0, .string bb0, .string cb0, .string db0, .string eb0, .int .u64 kb0, Vb0, Vb1, .string sb1, Vb2] ∧ nb0 < 18446744073709551616 ∧ mb0 < 18446744073709551616 ∧ kb0 < 18446744073709551616 ∧ Strs W Vb0 brb0 ∧ Strs W Vb1 brb1 ∧ Strs W Vb2 brb2 ∧ (ab0.size + bb0.size + cb0.size + (db0.size + eb0.size) + weightS brb0) + (weightS brb1 + sb1.size) + weightS brb2 ≤ Rows.uptoBulk x.1 := by
  obtain ⟨xs, m, rfl, rfl, hl, hlen, hf⟩ := DataW.trod_struct Tryd.underlying48 h
  have hcN : Tryd.prog.cellsOf 48 = 12 := by kernel_rfl
  rw [hcN] at hl
  match cs, hl, xs, hlen with
  | [c0, c1, c2, c3, c4, c5, c6, c7, c8, c9, c10, c11], _, [y0, y1, y2], _ =>
    have h0 := hf 0 _ rfl
    have h1 := hf 1 _ rfl
    have h2 := hf 2 _ rfl
    obtain ⟨nb0, mb0, ab0, bb0, cb0, db0, eb0, kb0, Vb0, brb0, e_0, f1b0, f2b0, f3b0, f4b0, gb0⟩ := light_of_trod h0
    obtain ⟨Vb1, brb1, sb1, e_1, f1b1, gb1⟩ := comm_of_trod h1
    obtain ⟨Vb2, brb2, e_2, f1b2, gb2⟩ := strs_of_trod h2
    cases e_0; cases e_1; cases e_2
    refine ⟨nb0, mb0, ab0, bb0, cb0, db0, eb0, kb0, _, brb0, _, brb1, sb1, _, brb2, rfl, f1b0, f2b0, f3b0, f4b0, f1b1, f1b2, ?_⟩
    simp only [List.getElem?_cons_zero, List.getElem?_cons_succ] at *
    simp only [List.map_cons, List.map_nil, Rows.uptoBulk, Rows.uptoBulkAll]
    omega
set_option maxRecDepth 100000 in
theorem open_boot {H : Type} {enc : TypeId × Value → H} {W : World} {r : Reach} {b0 : Nat} {v : Value} {d : DataW H} {ps : List MemPlace} (hval : Value.okWide Tryd.prog W r b0 48 v) (hd : DataW.Trod enc Tryd.prog W 0 (fun _ => true) true 48 v d ps) :
    ∃ (nb0 mb0 : Nat) (ab0 bb0 cb0 db0 eb0 : ByteArray) (kb0 : Nat) (Vb0 : Value) (brb0 : List ByteArray) (Vb1 : Value) (brb1 : List ByteArray) (sb1 : ByteArray) (Vb2 : Value) (brb2 : List ByteArray), v = .agg #[.int .u64 nb0, .int .u64 mb0, .string ab0, .string bb0, .string cb0, .string db0, .string eb0, .int .u64 kb0, Vb0, Vb1, .string sb1, Vb2] ∧ nb0 < 18446744073709551616 ∧ mb0 < 18446744073709551616 ∧ kb0 < 18446744073709551616 ∧ Strs W Vb0 brb0 ∧ Strs W Vb1 brb1 ∧ Strs W Vb2 brb2 ∧ (ab0.size + bb0.size + cb0.size + (db0.size + eb0.size) + weightS brb0) + (weightS brb1 + sb1.size) + weightS brb2 ≤ Rows.uptoBulk d := by
  obtain ⟨cs, rfl, _⟩ := okWide_struct Tryd.underlying48 hval
  obtain ⟨fuel, h⟩ := hd
  obtain ⟨nb0, mb0, ab0, bb0, cb0, db0, eb0, kb0, Vb0, brb0, Vb1, brb1, sb1, Vb2, brb2, hcs, hr⟩ := boot_of_trod h
  refine ⟨nb0, mb0, ab0, bb0, cb0, db0, eb0, kb0, Vb0, brb0, Vb1, brb1, sb1, Vb2, brb2, ?_, hr⟩
  have : cs.toList = _ := hcs
  rw [← this]
set_option maxRecDepth 100000 in
theorem upd_of_trod {H : Type} {enc : TypeId × Value → H} {W : World} {fuel : Nat} {cs : List Value} {x : DataW H × List MemPlace} (h : DataW.trod enc Tryd.prog W 0 (fun _ => true) true fuel 52 cs = some x) :
    ∃ (nu0 mu0 : Nat) (au0 bu0 cu0 du0 eu0 : ByteArray) (ku0 : Nat) (Vu0 : Value) (bru0 : List ByteArray) (Vu1 : Value) (bru1 : List ByteArray) (su1 : ByteArray) (Vu2 : Value) (bru2 : List ByteArray) (nu3 mu3 : Nat) (au3 bu3 cu3 du3 eu3 : ByteArray) (ku3 : Nat) (Vu3 : Value) (bru3 : List ByteArray) (Vu4 : Value) (bru4 : List ByteArray) (nu5 : Nat) (su6 : ByteArray) (nu7 : Nat), cs = [.int .u64 nu0, .int .u64 mu0, .string au0, .string bu0, .string cu0, .string du0, .string eu0, .int .u64 ku0, Vu0, Vu1, .string su1, Vu2, .int .u64 nu3, .int .u64 mu3, .string au3, .string bu3, .string cu3, .string du3, .string eu3, .int .u64 ku3, Vu3, Vu4, .int .u64 nu5, .string su6, .int .u64 nu7] ∧ nu0 < 18446744073709551616 ∧ mu0 < 18446744073709551616 ∧ ku0 < 18446744073709551616 ∧ Strs W Vu0 bru0 ∧ Strs W Vu1 bru1 ∧ Strs W Vu2 bru2 ∧ nu3 < 18446744073709551616 ∧ mu3 < 18446744073709551616 ∧ ku3 < 18446744073709551616 ∧ Strs W Vu3 bru3 ∧ Strs W Vu4 bru4 ∧ nu5 < 18446744073709551616 ∧ nu7 < 18446744073709551616 ∧ (au0.size + bu0.size + cu0.size + (du0.size + eu0.size) + weightS bru0) + (weightS bru1 + su1.size) + weightS bru2 + (au3.size + bu3.size + cu3.size + (du3.size + eu3.size) + weightS bru3) + weightS bru4 + 0 + su6.size + 0 ≤ Rows.uptoBulk x.1 := by
  obtain ⟨xs, m, rfl, rfl, hl, hlen, hf⟩ := DataW.trod_struct Tryd.underlying52 h
  have hcN : Tryd.prog.cellsOf 52 = 25 := by kernel_rfl
  rw [hcN] at hl
  match cs, hl, xs, hlen with
  | [c0, c1, c2, c3, c4, c5, c6, c7, c8, c9, c10, c11, c12, c13, c14, c15, c16, c17, c18, c19, c20, c21, c22, c23, c24], _, [y0, y1, y2, y3, y4, y5, y6, y7], _ =>
    have h0 := hf 0 _ rfl
    have h1 := hf 1 _ rfl
    have h2 := hf 2 _ rfl
    have h3 := hf 3 _ rfl
    have h4 := hf 4 _ rfl
    have h5 := hf 5 _ rfl
    have h6 := hf 6 _ rfl
    have h7 := hf 7 _ rfl
    obtain ⟨nu0, mu0, au0, bu0, cu0, du0, eu0, ku0, Vu0, bru0, e_0, f1u0, f2u0, f3u0, f4u0, gu0⟩ := light_of_trod h0
    obtain ⟨Vu1, bru1, su1, e_1, f1u1, gu1⟩ := comm_of_trod h1
    obtain ⟨Vu2, bru2, e_2, f1u2, gu2⟩ := strs_of_trod h2
    obtain ⟨nu3, mu3, au3, bu3, cu3, du3, eu3, ku3, Vu3, bru3, e_3, f1u3, f2u3, f3u3, f4u3, gu3⟩ := light_of_trod h3
    obtain ⟨Vu4, bru4, e_4, f1u4, gu4⟩ := strs_of_trod h4
    obtain ⟨Nu5, e_5, ru5, Fu5⟩ := DataW.trod_int Tryd.underlying22 h5
    obtain ⟨nu5, rfl, f1u5⟩ := u64_natH Fu5
    obtain ⟨su6, e_6, ru6, -⟩ := DataW.trod_string Tryd.underlying9 h6
    obtain ⟨Nu7, e_7, ru7, Fu7⟩ := DataW.trod_int Tryd.underlying22 h7
    obtain ⟨nu7, rfl, f1u7⟩ := u64_natH Fu7
    cases e_0; cases e_1; cases e_2; cases e_3; cases e_4; cases e_5; cases e_6; cases e_7
    refine ⟨nu0, mu0, au0, bu0, cu0, du0, eu0, ku0, _, bru0, _, bru1, su1, _, bru2, nu3, mu3, au3, bu3, cu3, du3, eu3, ku3, _, bru3, _, bru4, nu5, su6, nu7, rfl, f1u0, f2u0, f3u0, f4u0, f1u1, f1u2, f1u3, f2u3, f3u3, f4u3, f1u4, f1u5, f1u7, ?_⟩
    simp only [List.getElem?_cons_zero, List.getElem?_cons_succ] at *
    subst ru5 ru6 ru7
    simp only [List.map_cons, List.map_nil, Rows.uptoBulk, Rows.uptoBulkAll]
    have lu6 : su6.data.toList.length = su6.size := rfl
    omega
set_option maxRecDepth 100000 in
theorem open_upd {H : Type} {enc : TypeId × Value → H} {W : World} {r : Reach} {b0 : Nat} {v : Value} {d : DataW H} {ps : List MemPlace} (hval : Value.okWide Tryd.prog W r b0 52 v) (hd : DataW.Trod enc Tryd.prog W 0 (fun _ => true) true 52 v d ps) :
    ∃ (nu0 mu0 : Nat) (au0 bu0 cu0 du0 eu0 : ByteArray) (ku0 : Nat) (Vu0 : Value) (bru0 : List ByteArray) (Vu1 : Value) (bru1 : List ByteArray) (su1 : ByteArray) (Vu2 : Value) (bru2 : List ByteArray) (nu3 mu3 : Nat) (au3 bu3 cu3 du3 eu3 : ByteArray) (ku3 : Nat) (Vu3 : Value) (bru3 : List ByteArray) (Vu4 : Value) (bru4 : List ByteArray) (nu5 : Nat) (su6 : ByteArray) (nu7 : Nat), v = .agg #[.int .u64 nu0, .int .u64 mu0, .string au0, .string bu0, .string cu0, .string du0, .string eu0, .int .u64 ku0, Vu0, Vu1, .string su1, Vu2, .int .u64 nu3, .int .u64 mu3, .string au3, .string bu3, .string cu3, .string du3, .string eu3, .int .u64 ku3, Vu3, Vu4, .int .u64 nu5, .string su6, .int .u64 nu7] ∧ nu0 < 18446744073709551616 ∧ mu0 < 18446744073709551616 ∧ ku0 < 18446744073709551616 ∧ Strs W Vu0 bru0 ∧ Strs W Vu1 bru1 ∧ Strs W Vu2 bru2 ∧ nu3 < 18446744073709551616 ∧ mu3 < 18446744073709551616 ∧ ku3 < 18446744073709551616 ∧ Strs W Vu3 bru3 ∧ Strs W Vu4 bru4 ∧ nu5 < 18446744073709551616 ∧ nu7 < 18446744073709551616 ∧ (au0.size + bu0.size + cu0.size + (du0.size + eu0.size) + weightS bru0) + (weightS bru1 + su1.size) + weightS bru2 + (au3.size + bu3.size + cu3.size + (du3.size + eu3.size) + weightS bru3) + weightS bru4 + 0 + su6.size + 0 ≤ Rows.uptoBulk d := by
  obtain ⟨cs, rfl, _⟩ := okWide_struct Tryd.underlying52 hval
  obtain ⟨fuel, h⟩ := hd
  obtain ⟨nu0, mu0, au0, bu0, cu0, du0, eu0, ku0, Vu0, bru0, Vu1, bru1, su1, Vu2, bru2, nu3, mu3, au3, bu3, cu3, du3, eu3, ku3, Vu3, bru3, Vu4, bru4, nu5, su6, nu7, hcs, hr⟩ := upd_of_trod h
  refine ⟨nu0, mu0, au0, bu0, cu0, du0, eu0, ku0, Vu0, bru0, Vu1, bru1, su1, Vu2, bru2, nu3, mu3, au3, bu3, cu3, du3, eu3, ku3, Vu3, bru3, Vu4, bru4, nu5, su6, nu7, ?_, hr⟩
  have : cs.toList = _ := hcs
  rw [← this]
end Go.Proofs.YtfbopnebfdkhdaaDoor
