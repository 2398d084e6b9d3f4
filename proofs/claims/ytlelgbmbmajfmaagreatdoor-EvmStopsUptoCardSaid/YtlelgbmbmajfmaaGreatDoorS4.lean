/- What the walks take: EvmC, EvmD. -/
import Derived.Test.YtlelgbmbmajfmaaGreatDoorS2
import Derived.Test.YtlelgbmbmajfmaaGreatDoorS3
import Derived.Test.YtlelgbmbmajfmaaGreatDoorShelf
namespace Go.Proofs.YtlelgbmbmajfmaaGreatDoor
open Go.RowKit Go.Shelf Go.Lib
attribute [local go_sem] Oper.semAt_some
theorem appE (l r : List UInt8) : (⟨l.toArray⟩ ++ ⟨r.toArray⟩ : ByteArray) = ⟨(l ++ r).toArray⟩ := by
  apply ByteArray.ext
  apply Array.toList_inj.1
  simp
theorem sizeE (l : List UInt8) : (⟨l.toArray⟩ : ByteArray).size = l.length := by simp [ByteArray.size]
theorem extractE (s : List UInt8) (a b : Nat) : (⟨s.toArray⟩ : ByteArray).extract a b = ⟨((s.drop a).take (b - a)).toArray⟩ := by
  apply ByteArray.ext
  rw [ByteArray.data_extract]
  apply Array.toList_inj.1
  simp
theorem repeatL_zeros (c : Nat) : Lib.repeatL [(0 : UInt8)] c = List.replicate c 0 := by
  induction c with
  | zero => rfl
  | succ c ih =>
    have h : Lib.repeatL [(0 : UInt8)] (c + 1) = [0] ++ Lib.repeatL [0] c := rfl
    rw [h, ih]
    rfl
theorem zerosE (c : Nat) (hc : c ≤ 1048576) (w : World) : Calls Tryz.prog 84 #[.string ⟨#[0]⟩, .int .i64 c] w fun e w' => e = .returned (.string ⟨(List.replicate c 0).toArray⟩) ∧ Below w.heap.size w w' := by
  have := Tryz.strings_Repeat ⟨#[0]⟩ c w (by omega) (by simp [ByteArray.size]; omega)
  rw [show (⟨#[0]⟩ : ByteArray).data.toList = [0] from rfl, repeatL_zeros] at this
  exact this
theorem results_tmp3E {fn : Func} {p q u : Tmp} (h : fn.results = #[.tmp p, .tmp q, .tmp u]) (tmps : Array Value) (w : World) : (results fn tmps).run Tryz.prog w = .ok (.tuple #[tmps.getD p undef, tmps.getD q undef, tmps.getD u undef]) w := by
  simp [results, h]
def atV (c : List UInt8) (pc : Nat) : Value := .tuple #[.int .u8 (opE c pc).toNat, .string ⟨(dataE c pc).toArray⟩, .int .i64 (nextE c pc)]
set_option maxRecDepth 100000 in
set_option maxHeartbeats 6400000 in
theorem codeAt_any (c : List UInt8) (pc : Nat) (w : World) (hc : c.length ≤ 1099511627776) (hpc : pc ≤ 1099511627776) : Calls Tryz.prog 94 #[.string ⟨c.toArray⟩, .int .i64 pc] w fun e w' => e = .returned (atV c pc) ∧ Below w.heap.size w w' := by
  obtain ⟨V, hV⟩ : ∃ V, atV c pc = V := ⟨_, rfl⟩
  rw [hV]
  obtain ⟨N, hN⟩ : ∃ N, c.length = N := ⟨_, rfl⟩
  have hsz : (⟨c.toArray⟩ : ByteArray).size = N := by rw [sizeE, hN]
  have g0 : ¬ (pc : Int) < 0 := by omega
  have gw1 : IntKind.i64.wrap ((pc : Int) + 1) = (pc : Int) + 1 := by rw [IntKind.wrap_i64]; omega
  have HV := Lib.hid hV
  have HN := Lib.hid hN
  clear hV
  by_cases hlt : pc < N
  · have g1 : ¬ (N : Int) ≤ pc := by omega
    have g1' : (pc : Int) < N := by omega
    have g1'' : (0 : Int) ≤ pc := by omega
    obtain ⟨op, hop⟩ : ∃ op, c.getD pc 0 = op := ⟨_, rfl⟩
    have hopE : opE c pc = op := hop
    have hget : ∀ h : pc < (⟨c.toArray⟩ : ByteArray).size, (⟨c.toArray⟩ : ByteArray)[pc]'h = op := fun h => by
      have h1 : pc < c.length := by omega
      rw [← hop, List.getD_eq_getElem?_getD, List.getElem?_eq_getElem h1]
      rfl
    have HOP := Lib.hid hopE
    obtain ⟨n, hn⟩ : ∃ n, op.toNat = n := ⟨_, rfl⟩
    have hn8 : n < 256 := by rw [← hn]; exact op.toNat_lt
    by_cases hp : 0x60 ≤ n ∧ n ≤ 0x7f
    · have hpush : pushE op = true := by unfold pushE; rw [hn, decide_eq_true hp.1, decide_eq_true hp.2]; rfl
      obtain ⟨m, hm⟩ : ∃ m, n - 0x5f = m := ⟨_, rfl⟩
      obtain ⟨D, hD⟩ : ∃ D, (c.drop (pc + 1)).take m = D := ⟨_, rfl⟩
      have hDl : D.length = min N (pc + 1 + m) - (pc + 1) := by rw [← hD, List.length_take, List.length_drop]; omega
      have hres : V = .tuple #[.int .u8 n, .string ⟨(D ++ List.replicate (m - D.length) 0).toArray⟩, .int .i64 ((pc : Int) + 1 + m)] := by
        rw [← HV.out]
        unfold atV dataE nextE
        rw [hopE, hpush, if_pos rfl, if_pos rfl, hn, hm, hD]
        simp
      subst hres
      have hmm : m ≤ 32 := by omega
      obtain ⟨b, hb⟩ : ∃ b, min N (pc + 1 + m) = b := ⟨_, rfl⟩
      have k1 : ¬ (n : Int) < 96 := by omega
      have k2 : ¬ (127 : Int) < n := by omega
      have k3 : IntKind.i64.wrap (n : Int) = (n : Int) := by rw [IntKind.wrap_i64]; omega
      have k4 : IntKind.i64.wrap ((n : Int) - 95) = (m : Int) := by rw [IntKind.wrap_i64]; omega
      have k4' : (n : Int) - 95 = (m : Int) := by omega
      have k5 : IntKind.i64.wrap ((pc : Int) + 1 + m) = (pc : Int) + 1 + m := by rw [IntKind.wrap_i64]; omega
      have k6 : min (N : Int) ((pc : Int) + 1 + m) = (b : Int) := by omega
      have k7 : (pc : Int) + 1 ≤ b := by omega
      have k8 : (b : Int) ≤ N := by omega
      have k9 : (0 : Int) ≤ (pc : Int) + 1 := by omega
      have k10 : (0 : Int) ≤ (b : Int) := by omega
      have hx : (⟨c.toArray⟩ : ByteArray).extract (pc + 1) b = ⟨D.toArray⟩ := by
        rw [extractE, ← hD, ← hb]
        congr 1
        congr 1
        apply List.ext_getElem?
        intro i
        rw [List.getElem?_take, List.getElem?_take, List.getElem?_drop]
        by_cases hi : i < min N (pc + 1 + m) - (pc + 1)
        · rw [if_pos hi, if_pos (by omega)]
        · rw [if_neg hi]
          by_cases hi2 : i < m
          · rw [if_pos hi2, List.getElem?_eq_none (by omega)]
          · rw [if_neg hi2]
      have hDs : (⟨D.toArray⟩ : ByteArray).size = D.length := sizeE D
      have k11 : IntKind.i64.wrap ((m : Int) - (D.length : Int)) = ((m - D.length : Nat) : Int) := by rw [IntKind.wrap_i64]; omega
      have k11' : (m : Int) - (D.length : Int) = ((m - D.length : Nat) : Int) := by omega
      have HZ := Lib.hid (fun W => zerosE (m - D.length) (by omega) W)
      have k12 : (⟨D.toArray⟩ ++ ⟨(List.replicate (m - D.length) 0).toArray⟩ : ByteArray) = ⟨(D ++ List.replicate (m - D.length) 0).toArray⟩ := appE _ _
      clear hop hopE hN hpush hm hD hDl hb hp hmm
      go_enter Tryz.func94, Tryz.ntmps94
      go_wp2_with fail
      refine (HZ.out w).mono ?_
      rintro e w1 ⟨rfl, hb1⟩
      have HB1 := Lib.hid hb1
      clear hb1
      go_wp2_with fail
      refine bodyPost_ret (results_tmp3E rfl _ _) rfl ?_
      exact ⟨rfl, HB1.out⟩
    · have hpush : pushE op = false := by
        unfold pushE
        rw [hn]
        cases h1 : decide (0x60 ≤ n) with
        | false => rfl
        | true =>
          have := of_decide_eq_true h1
          rw [decide_eq_false (by omega)]; rfl
      have hres : V = .tuple #[.int .u8 n, .string ⟨#[]⟩, .int .i64 ((pc : Int) + 1)] := by
        rw [← HV.out]
        unfold atV dataE nextE
        rw [hopE, hpush, if_neg (by simp), if_neg (by simp), hn]
        rfl
      subst hres
      clear hop hopE hN
      by_cases h1 : n < 0x60
      · have k1 : (n : Int) < 96 := by omega
        go_enter Tryz.func94, Tryz.ntmps94
        go_wp2_with fail
        refine bodyPost_ret (results_tmp3E rfl _ _) rfl ?_
        exact ⟨rfl, Below.refl _ _⟩
      · have k1 : ¬ (n : Int) < 96 := by omega
        have k2 : (127 : Int) < n := by omega
        go_enter Tryz.func94, Tryz.ntmps94
        go_wp2_with fail
        refine bodyPost_ret (results_tmp3E rfl _ _) rfl ?_
        exact ⟨rfl, Below.refl _ _⟩
  · have g1 : (N : Int) ≤ pc := by omega
    have hop : opE c pc = 0 := by unfold opE; rw [List.getD_eq_getElem?_getD, List.getElem?_eq_none (by omega)]; rfl
    have hres : V = .tuple #[.int .u8 0, .string ⟨#[]⟩, .int .i64 ((pc : Int) + 1)] := by
      rw [← HV.out]
      unfold atV dataE nextE
      rw [hop]
      rfl
    subst hres
    clear hop hN
    go_enter Tryz.func94, Tryz.ntmps94
    go_wp2_with fail
    refine bodyPost_ret (results_tmp3E rfl _ _) rfl ?_
    exact ⟨rfl, Below.refl _ _⟩
end Go.Proofs.YtlelgbmbmajfmaaGreatDoor

namespace Go.Proofs.YtlelgbmbmajfmaaGreatDoor
open Go.RowKit Go.Shelf Go.Lib
attribute [local go_sem] Oper.semAt_some
/-- a memory's cost -/
def costE (n : Nat) : Nat := if n = 0 then 0 else 3 * ((n + 31) / 32) + ((n + 31) / 32) * ((n + 31) / 32) / 512
theorem costE_le {n : Nat} (h : n ≤ 131072) : costE n ≤ 100000 := by
  unfold costE
  split
  · omega
  · have h1 : (n + 31) / 32 ≤ 4096 := by omega
    have h2 : (n + 31) / 32 * ((n + 31) / 32) ≤ 4096 * 4096 := Nat.mul_le_mul h1 h1
    omega
theorem costE_mono {m n : Nat} (h : m ≤ n) : costE m ≤ costE n := by
  unfold costE
  split
  · exact Nat.zero_le _
  · rw [if_neg (by omega)]
    have h1 : (m + 31) / 32 ≤ (n + 31) / 32 := Nat.div_le_div_right (by omega)
    have h2 := Nat.mul_le_mul h1 h1
    have h3 : (m + 31) / 32 * ((m + 31) / 32) / 512 ≤ (n + 31) / 32 * ((n + 31) / 32) / 512 := Nat.div_le_div_right h2
    omega
set_option maxRecDepth 100000 in
theorem cost_any (n : Nat) (w : World) (hn : n ≤ 131072) : Calls Tryz.prog 187 #[.int .i64 n] w fun e w' => e = .returned (.int .u64 (costE n)) ∧ w' = w := by
  by_cases h0 : n = 0
  · subst h0
    go_enter Tryz.func187, Tryz.ntmps187
    go_wp2_with fail
    go_ret
    exact ⟨rfl, rfl⟩
  · obtain ⟨k, hk⟩ : ∃ k, (n + 31) / 32 = k := ⟨_, rfl⟩
    have hk1 : k ≤ 4096 := by omega
    have hkk : k * k ≤ 4096 * 4096 := Nat.mul_le_mul hk1 hk1
    have hres : (costE n : Int) = 3 * (k : Int) + (k : Int) * k / 512 := by
      unfold costE
      rw [if_neg h0, hk]
      simp
    have g1 : ¬ (n : Int) ≤ 0 := by omega
    have g2 : IntKind.u64.wrap (n : Int) = (n : Int) := by rw [IntKind.wrap_u64]; omega
    have g3 : IntKind.u64.wrap ((n : Int) + 32) = (n : Int) + 32 := by rw [IntKind.wrap_u64]; omega
    have g4 : IntKind.u64.wrap ((n : Int) + 32 - 1) = (n : Int) + 31 := by rw [IntKind.wrap_u64]; omega
    have g4' : (n : Int) + 32 - 1 = (n : Int) + 31 := by omega
    have g5 : ((n : Int) + 31).tdiv 32 = (k : Int) := by rw [Int.tdiv_eq_ediv_of_nonneg (by omega)]; omega
    have g6 : IntKind.u64.wrap (3 * (k : Int)) = 3 * (k : Int) := by rw [IntKind.wrap_u64]; omega
    have hki : (k : Int) * k ≤ 16777216 := by have := (Int.ofNat_le.2 hkk); simpa using this
    have hki0 : (0 : Int) ≤ (k : Int) * k := Int.mul_nonneg (by omega) (by omega)
    have g7 : IntKind.u64.wrap ((k : Int) * k) = (k : Int) * k := by rw [IntKind.wrap_u64]; omega
    have g8 : ((k : Int) * k).tdiv 512 = (k : Int) * k / 512 := Int.tdiv_eq_ediv_of_nonneg hki0
    have g9 : IntKind.u64.wrap (3 * (k : Int) + (k : Int) * k / 512) = 3 * (k : Int) + (k : Int) * k / 512 := by rw [IntKind.wrap_u64]; omega
    have gk : IntKind.u64.wrap (k : Int) = (k : Int) := by rw [IntKind.wrap_u64]; omega
    have g10 : IntKind.u64.wrap ((k : Int) * k / 512) = (k : Int) * k / 512 := by rw [IntKind.wrap_u64]; omega
    have HR := Lib.hid hres
    clear hres hk hkk hki hki0 hk1
    go_enter Tryz.func187, Tryz.ntmps187
    go_wp2_with fail
    go_ret
    rw [HR.out]
    exact ⟨rfl, rfl⟩
/-- are so many bytes there? -/
theorem has_any (m : List UInt8) (off n : Nat) (w : World) (hm : m.length ≤ 1099511627776) : Calls Tryz.prog 171 #[.string ⟨m.toArray⟩, .int .u64 off, .int .u64 n] w fun e w' => e = .returned (.bool (decide (off + n ≤ m.length))) ∧ w' = w := by
  obtain ⟨N, hN⟩ : ∃ N, m.length = N := ⟨_, rfl⟩
  have hsz : (⟨m.toArray⟩ : ByteArray).size = N := by rw [sizeE, hN]
  rw [hN] at hm ⊢
  have g1 : IntKind.u64.wrap (N : Int) = (N : Int) := by rw [IntKind.wrap_u64]; omega
  clear hN
  by_cases h1 : off ≤ N
  · have g2 : (off : Int) ≤ N := by omega
    have g3 : IntKind.u64.wrap ((N : Int) - off) = (N : Int) - off := by rw [IntKind.wrap_u64]; omega
    by_cases h2 : off + n ≤ N
    · have g4 : (n : Int) ≤ (N : Int) - off := by omega
      rw [decide_eq_true h2]
      go_enter Tryz.func171, Tryz.ntmps171
      go_wp2_with fail
      go_ret
      exact ⟨rfl, rfl⟩
    · have g4 : ¬ (n : Int) ≤ (N : Int) - off := by omega
      rw [decide_eq_false h2]
      go_enter Tryz.func171, Tryz.ntmps171
      go_wp2_with fail
      go_ret
      exact ⟨rfl, rfl⟩
  · have g2 : ¬ (off : Int) ≤ N := by omega
    rw [decide_eq_false (by omega)]
    go_enter Tryz.func171, Tryz.ntmps171
    go_wp2_with fail
    go_ret
    exact ⟨rfl, rfl⟩
set_option maxRecDepth 100000 in
theorem slice_any (m : List UInt8) (off n : Nat) (w : World) (hm : m.length ≤ 1099511627776) : Calls Tryz.prog 170 #[.string ⟨m.toArray⟩, .int .u64 off, .int .u64 n] w fun e w' =>
    e = .returned (if off + n ≤ m.length then .tuple #[.string ⟨((m.drop off).take n).toArray⟩, .int .i64 0] else .tuple #[.string ⟨#[]⟩, .int .i64 2]) ∧ w' = w := by
  have H := Lib.hid (has_any m off n w hm)
  have hx := extractE m off (off + n)
  rw [Nat.add_sub_cancel_left] at hx
  obtain ⟨N, hN⟩ : ∃ N, m.length = N := ⟨_, rfl⟩
  have hsz : (⟨m.toArray⟩ : ByteArray).size = N := by rw [sizeE, hN]
  rw [hN] at hm H ⊢
  clear hN
  by_cases h : off + n ≤ N
  · rw [if_pos h]
    rw [decide_eq_true h] at H
    have g1 : IntKind.u64.wrap ((off : Int) + n) = (off : Int) + n := by rw [IntKind.wrap_u64]; omega
    have g2 : (0 : Int) ≤ off := by omega
    have g3 : (off : Int) ≤ (off : Int) + n := by omega
    have g4 : (off : Int) + n ≤ N := by omega
    go_enter Tryz.func170, Tryz.ntmps170
    go_wp2_with fail
    refine H.out.mono ?_
    rintro e w1 ⟨rfl, rfl⟩
    go_wp2_with fail
    go_ret2
    exact ⟨by rw [hx]; rfl, rfl⟩
  · rw [if_neg h]
    rw [decide_eq_false h] at H
    go_enter Tryz.func170, Tryz.ntmps170
    go_wp2_with fail
    refine H.out.mono ?_
    rintro e w1 ⟨rfl, rfl⟩
    go_wp2_with fail
    go_ret2
    exact ⟨rfl, rfl⟩
end Go.Proofs.YtlelgbmbmajfmaaGreatDoor
