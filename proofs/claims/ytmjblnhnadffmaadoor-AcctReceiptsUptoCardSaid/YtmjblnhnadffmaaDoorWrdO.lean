/- An argument that is a word, or an account: what it reads as. -/
import Derived.Test.YtmjblnhnadffmaaDoorWrdE
import Derived.Test.YtmjblnhnadffmaaDoorRows
import Derived.Deep.Slices
import Derived.ChangeArms
import Derived.DataReads
import Derived.OpenShut
namespace Go.Proofs.YtmjblnhnadffmaaDoor
open Go.RowKit Go.ChangeShapes Go.WideShapes

theorem okWide_arr {P : Program} {w : World} {r : Reach} {base : Nat} {t e : TypeId} {n : Nat} {v : Value} (ht : P.underlying t = some (.array n e)) (h : Value.okWide P w r base t v) : ∃ cs, v = .agg cs ∧ cs.size = P.cellsOf t := by
  simp only [Value.okWide, ht] at h
  obtain ⟨cs, h1, h2, _⟩ := h
  exact ⟨cs, h1, h2⟩
theorem u64_natO {n : Int} (h : (Lit.int .u64 n).wf = true) : ∃ k : Nat, n = k ∧ k < 18446744073709551616 := by
  have h1 : IntKind.u64.min ≤ n ∧ n ≤ IntKind.u64.max := by simpa [Lit.wf] using h
  have h2 : IntKind.u64.min = 0 := by decide
  have h3 : IntKind.u64.max = 18446744073709551615 := by decide
  rw [h2, h3] at h1
  exact ⟨n.toNat, by omega, by omega⟩
set_option maxRecDepth 100000 in
theorem word_of_trod {H : Type} {enc : TypeId × Value → H} {W : World} {fuel : Nat} {cs : List Value} {x : DataW H × List MemPlace} (h : DataW.trod enc Tryd.prog W 0 (fun _ => true) true fuel 24 cs = some x) :
    ∃ v, v < 256 ^ 32 ∧ cs = [.int .u64 (limb v 0), .int .u64 (limb v 1), .int .u64 (limb v 2), .int .u64 (limb v 3)] := by
  obtain ⟨xs, m, rfl, rfl, hl, hlen, hf⟩ := DataW.trod_array Tryd.underlying24 h
  have hc4 : Tryd.prog.cellsOf 24 = 4 := by kernel_rfl
  have hc1 : Tryd.prog.cellsOf 22 = 1 := by kernel_rfl
  rw [hc4] at hl
  rw [hc1] at hf
  match cs, hl, xs, hlen with
  | [c0, c1, c2, c3], _, [y0, y1, y2, y3], _ =>
    have h0 := hf 0 (by omega)
    have h1 := hf 1 (by omega)
    have h2 := hf 2 (by omega)
    have h3 := hf 3 (by omega)
    obtain ⟨n0, e0, -, f0⟩ := DataW.trod_int Tryd.underlying22 h0
    obtain ⟨n1, e1, -, f1⟩ := DataW.trod_int Tryd.underlying22 h1
    obtain ⟨n2, e2, -, f2⟩ := DataW.trod_int Tryd.underlying22 h2
    obtain ⟨n3, e3, -, f3⟩ := DataW.trod_int Tryd.underlying22 h3
    cases e0; cases e1; cases e2; cases e3
    obtain ⟨k0, rfl, g0⟩ := u64_natO f0
    obtain ⟨k1, rfl, g1⟩ := u64_natO f1
    obtain ⟨k2, rfl, g2⟩ := u64_natO f2
    obtain ⟨k3, rfl, g3⟩ := u64_natO f3
    obtain ⟨l0, l1, l2, l3⟩ := limb_ofLimbs g0 g1 g2 g3
    exact ⟨ofLimbs k0 k1 k2 k3, ofLimbs_lt g0 g1 g2 g3, by rw [l0, l1, l2, l3]⟩
set_option maxRecDepth 100000 in
theorem open_word {H : Type} {enc : TypeId × Value → H} {W : World} {r : Reach} {b0 : Nat} {v : Value} {d : DataW H} {ps : List MemPlace} (hval : Value.okWide Tryd.prog W r b0 24 v) (hd : DataW.Trod enc Tryd.prog W 0 (fun _ => true) true 24 v d ps) :
    ∃ n, v = wordV n ∧ n < 256 ^ 32 := by
  obtain ⟨cs, rfl, _⟩ := okWide_arr Tryd.underlying24 hval
  obtain ⟨fuel, hf⟩ := hd
  obtain ⟨n, hn, hcs⟩ := word_of_trod hf
  refine ⟨n, ?_, hn⟩
  have : cs.toList = [.int .u64 (limb n 0), .int .u64 (limb n 1), .int .u64 (limb n 2), .int .u64 (limb n 3)] := hcs
  unfold wordV
  rw [← this]
/-- an account as a value -/
def acctV (n b : Nat) (root code : ByteArray) : Value := .agg #[.int .u64 n, .int .u64 (limb b 0), .int .u64 (limb b 1), .int .u64 (limb b 2), .int .u64 (limb b 3), .string root, .string code]
set_option maxRecDepth 100000 in
theorem open_acct {H : Type} {enc : TypeId × Value → H} {W : World} {r : Reach} {b0 : Nat} {v : Value} {d : DataW H} {ps : List MemPlace} (hval : Value.okWide Tryd.prog W r b0 32 v) (hd : DataW.Trod enc Tryd.prog W 0 (fun _ => true) true 32 v d ps) :
    ∃ (n b : Nat) (root code : ByteArray), v = acctV n b root code ∧ n < 18446744073709551616 ∧ b < 256 ^ 32 ∧ root.size + code.size ≤ Rows.uptoBulk d := by
  obtain ⟨cs, rfl, _⟩ := okWide_struct Tryd.underlying32 hval
  obtain ⟨fuel, h⟩ := hd
  obtain ⟨xs, m, rfl, hx, hl, hlen, hf⟩ := DataW.trod_struct Tryd.underlying32 h
  have hc7 : Tryd.prog.cellsOf 32 = 7 := by kernel_rfl
  obtain ⟨cs⟩ := cs
  simp only [Value.cells] at hl hf
  rw [hc7] at hl
  match cs, hl, xs, hlen with
  | [c0, c1, c2, c3, c4, c5, c6], _, [y0, y1, y2, y3], _ =>
    have h0 := hf 0 _ rfl
    have h1 := hf 1 _ rfl
    have h2 := hf 2 _ rfl
    have h3 := hf 3 _ rfl
    obtain ⟨n0, e0, r0, f0⟩ := DataW.trod_int Tryd.underlying22 h0
    obtain ⟨b, hb, eb⟩ := word_of_trod h1
    obtain ⟨s2, e2, r2, -⟩ := DataW.trod_string Tryd.underlying9 h2
    obtain ⟨s3, e3, r3, -⟩ := DataW.trod_string Tryd.underlying9 h3
    cases e0; cases eb; cases e2; cases e3
    obtain ⟨k0, rfl, g0⟩ := u64_natO f0
    refine ⟨k0, b, s2, s3, rfl, g0, hb, ?_⟩
    cases hx
    subst r0 r2 r3
    simp only [List.map_cons, List.map_nil, Rows.uptoBulk, Rows.uptoBulkAll]
    have l2 : s2.data.toList.length = s2.size := rfl
    have l3 : s3.data.toList.length = s3.size := rfl
    omega
end Go.Proofs.YtmjblnhnadffmaaDoor
