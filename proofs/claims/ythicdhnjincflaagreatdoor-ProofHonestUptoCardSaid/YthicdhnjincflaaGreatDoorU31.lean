/- What the walks take: TrgA. -/
import Derived.Test.YthicdhnjincflaaGreatDoorU0
import Derived.Test.YthicdhnjincflaaGreatDoorU4
import Derived.Test.YthicdhnjincflaaGreatDoorU22
import Derived.Maps.OwnSet
import Derived.Maps.Views
namespace Go.Proofs.YthicdhnjincflaaGreatDoor
open Go.RowKit Go.Shelf Go.Lib
attribute [local go_sem] Oper.semAt_some
theorem keyedS : Maps.Keyed Tryz.prog 9 := Maps.string_keyed Tryz.underlying9
theorem zeroBool (w : World) : (zeroValue 4).run Tryz.prog w = .ok (.bool false) w := Tryz.zeroValue4 w
set_option maxRecDepth 100000 in
theorem bool_inv {v : Value} {z : DataW Unit × List MemPlace} (h : plainElem Tryz.prog 4 v = some z) : ∃ b, v = .bool b ∧ z.1 = .lit (.bool b) := by
  unfold plainElem at h
  rw [Tryz.underlying4] at h
  cases v with
  | bool b =>
    dsimp only at h
    exact ⟨b, rfl, by rw [← Option.some.inj h]⟩
  | _ => cases h
def SeenAt (w : World) (b n : Nat) (L : List (List UInt8)) : Prop :=
  ∃ D : DataW Unit, w.ownsMap Tryz.prog 9 (plainElem Tryz.prog 4) b n D ∧ ∀ s, D.atKey (.string s) (.lit (.bool false)) = .lit (.bool (L.contains s))
theorem SeenAt.made (w : World) : SeenAt (w.alloc (.map #[] 0)) w.heap.size 0 [] := ⟨_, World.ownsMap_made _ _ _ _, fun _ => rfl⟩
theorem SeenAt.kept {w w' : World} {b n : Nat} {L : List (List UInt8)} {row : Option Nat} (h : SeenAt w b n L) (hg : w.grownBy w' row) (hne : some b ≠ row) : SeenAt w' b n L := by
  obtain ⟨D, h1, h2⟩ := h
  exact ⟨D, h1.kept hg hne, h2⟩
theorem SeenAt.alloc {w : World} {b n : Nat} {L : List (List UInt8)} (h : SeenAt w b n L) (o : Obj) : SeenAt (w.alloc o) b n L := h.kept (World.grownBy_alloc w o none) (by simp)
theorem SeenAt.lookup {w : World} {b n : Nat} {L : List (List UInt8)} (h : SeenAt w b n L) (s : List UInt8) (hs : s.length ≤ maxLen) : (Instr.lookup 51 (.map (some b)) (.string ⟨s.toArray⟩) false).run Tryz.prog w = .ok (.bool (L.contains s)) w := by
  obtain ⟨D, h1, h2⟩ := h
  obtain ⟨v, ps, hrun, hv⟩ := h1.lookup keyedS Tryz.underlying51 (zeroBool w) (plainElem_bool Tryz.underlying4 false) (key := .string ⟨s.toArray⟩) (kl := .string s) (WideMaps.keyOf_string_mk Tryz.underlying9 (s := ⟨s.toArray⟩) hs)
  obtain ⟨c, rfl, hc⟩ := bool_inv hv
  have e := h2 s
  dsimp only at hc
  rw [hc] at e
  have e2 : c = L.contains s := Lit.bool.inj (DataW.lit.inj e)
  rw [hrun, e2]
theorem SeenAt.update {w' : World} {b n : Nat} {L : List (List UInt8)} {D : DataW Unit} {s : List UInt8} (h0 : Maps.IsMap D) (h : w'.ownsMap Tryz.prog 9 (plainElem Tryz.prog 4) b (n + 1) (D.put (.string s) (.lit (.bool true)))) (h2 : ∀ s, D.atKey (.string s) (.lit (.bool false)) = .lit (.bool (L.contains s))) : SeenAt w' b (n + 1) (L ++ [s]) := by
  refine ⟨_, h, fun t => ?_⟩
  by_cases e : t = s
  · subst e
    rw [Maps.atKey_put_same h0 (show WideAt.IsKeyLit (Lit.string t) from trivial)]
    simp
  · rw [Maps.atKey_put_other (fun h => e (Lit.string.inj h)), h2]
    have : (L ++ [s]).contains t = L.contains t := by
      rw [Bool.eq_iff_iff]
      simp [e]
    rw [this]
theorem right_step {ps : List PairD} {k : Nat} {q : PairD} (hq : ps[k]? = some q) : rightFrom (ps.take k) (ps.drop k) = (okPair q && (!(((ps.take k).map Prod.fst).contains q.1) && rightFrom (ps.take (k + 1)) (ps.drop (k + 1)))) := by
  obtain ⟨hk, hq'⟩ := List.getElem?_eq_some_iff.1 hq
  rw [List.drop_eq_getElem_cons hk, hq', List.take_add_one, hq]
  show (okPair q && (!((ps.take k).any fun x => x.1 == q.1) && rightFrom (ps.take k ++ [q]) (ps.drop (k + 1)))) = _
  have : ((ps.take k).any fun x => x.1 == q.1) = ((ps.take k).map Prod.fst).contains q.1 := by
    rw [Bool.eq_iff_iff, List.any_eq_true]
    simp only [List.contains_eq_mem, decide_eq_true_eq, List.mem_map, beq_iff_eq]
  rw [this]
  rfl
set_option maxRecDepth 100000 in
set_option maxHeartbeats 6400000 in
theorem trieRight_any (ps : List PairD) (v : Value) (w : World) (hv : Pairs w v ps) (hN : ps.length ≤ 1099511627775) (hB : ∀ q ∈ ps, q.1.length ≤ 1099511627776 ∧ q.2.length ≤ 1099511627776) :
    Calls Tryz.prog 9 #[v] w fun e w' => e = .returned (.bool (rightP ps)) ∧ Below w.heap.size w w' := by
  obtain ⟨p, c, rfl, hc, hcell⟩ := hv
  have HC := Lib.hid hcell
  obtain ⟨n, hn⟩ : ∃ n, ps.length = n := ⟨_, rfl⟩
  obtain ⟨rr, hrr⟩ : ∃ r, rightP ps = r := ⟨_, rfl⟩
  rw [hrr]
  rw [hn] at hc hN ⊢
  have HN := Lib.hid hn
  have HR := Lib.hid hrr
  have HB := Lib.hid hB
  have hmm := @run_makeMap Tryz.prog
  clear hcell hn hrr hB
  go_enter Tryz.func9, Tryz.ntmps9
  go_wp2_with fail
  go_loopw [9] (fun i wr => ∃ k : Nat, k ≤ n ∧ i = .int .i64 k ∧ Aside (SeenAt wr w.heap.size k ((ps.take k).map Prod.fst)) ∧ Aside (rightFrom [] ps = rightFrom (ps.take k) (ps.drop k)) ∧ Aside (Below w.heap.size w wr)) (fun i _ => n - (RowKit.intOf i).toNat)
  case atStart => exact ⟨0, Nat.zero_le _, rfl, SeenAt.made w, rfl, laid1 w _⟩
  case round =>
    obtain ⟨k, hk, rfl, HS, HF, HBW⟩ := hrel
    by_cases hlt : k < n
    · obtain ⟨q, hq⟩ : ∃ q, ps[k]? = some q := ⟨_, List.getElem?_eq_getElem (by rw [HN.out]; exact hlt)⟩
      obtain ⟨bk, o, rfl, hbk, hcl⟩ : ∃ bk o, p = some ⟨bk, o, none⟩ ∧ bk < w.heap.size ∧ ∀ (j : Nat) q, ps[j]? = some q → w.cell? ⟨bk, o + j * 2, none⟩ = some (.string ⟨q.1.toArray⟩) ∧ w.cell? ⟨bk, o + j * 2 + 1, none⟩ = some (.string ⟨q.2.toArray⟩) := by
        rcases HC.out with h | ⟨bk, o, h1, h2, h3⟩
        · have h4 := congrArg List.length h
          rw [HN.out] at h4
          simp at h4
          omega
        · exact ⟨bk, o, h1, h2, h3⟩
      have c0 := (HBW.out.cell (p := ⟨bk, o + k * 2, none⟩) hbk).trans (hcl k q hq).1
      have c1 := (HBW.out.cell (p := ⟨bk, o + k * 2 + 1, none⟩) hbk).trans (hcl k q hq).2
      have hst := right_step hq
      rw [← HF.out] at hst
      have hbq := HB.out q (List.mem_of_getElem? hq)
      have htk : (ps.take (k + 1)).map Prod.fst = (ps.take k).map Prod.fst ++ [q.1] := by rw [List.take_add_one, hq]; simp
      obtain ⟨ky, vl⟩ := q
      dsimp only at c0 c1 hbq htk
      have hks : (⟨ky.toArray⟩ : ByteArray).size = ky.length := rfl
      have hvs : (⟨vl.toArray⟩ : ByteArray).size = vl.length := rfl
      have g1 : (0 : Int) ≤ k := by omega
      have g2 : (k : Int) < n := by omega
      have HST := Lib.hid hst
      have HBL := Lib.hid (HBW.out.alloc HBW.out.size (.cells #[.string ⟨ky.toArray⟩, .string ⟨vl.toArray⟩] 40))
      have hrf : ∀ (b : Bool), okPair (ky, vl) = false → rr = false := fun _ h => by
        rw [← HR.out]
        unfold rightP
        rw [HST.out, h]
        simp
      have HRF := Lib.hid hrf
      clear hst hcl hq hbk hrf
      by_cases k0 : ky = []
      · obtain rfl : rr = false := HRF.out true (by subst k0; rfl)
        subst k0
        clear HRF HST htk
        go_wp2_with fail
        go_ret
        exact ⟨rfl, HBL.out⟩
      · have q0 : (ky == []) = false := by rw [beq_eq_false_iff_ne]; exact k0
        by_cases k1 : 64 < ky.length
        · obtain rfl : rr = false := HRF.out true (by unfold okPair; simp; omega)
          have j1 : (64 : Int) < (ky.length : Int) := by omega
          clear HRF HST htk
          go_wp2_with fail
          go_ret
          exact ⟨rfl, HBL.out⟩
        · have j1 : ¬ (64 : Int) < (ky.length : Int) := by omega
          have j1d : decide ((64 : Int) < (ky.length : Int)) = false := decide_eq_false j1
          by_cases v0 : vl = []
          · obtain rfl : rr = false := HRF.out true (by subst v0; unfold okPair; simp)
            subst v0
            clear HRF HST htk
            go_wp2_with fail
            go_ret
            exact ⟨rfl, HBL.out⟩
          · have q1 : (vl == []) = false := by rw [beq_eq_false_iff_ne]; exact v0
            by_cases v1 : 1000 < vl.length
            · obtain rfl : rr = false := HRF.out true (by unfold okPair; simp; omega)
              have j2 : (1000 : Int) < (vl.length : Int) := by omega
              clear HRF HST htk
              go_wp2_with fail
              go_ret
              exact ⟨rfl, HBL.out⟩
            · have j2 : ¬ (1000 : Int) < (vl.length : Int) := by omega
              have j2d : decide ((1000 : Int) < (vl.length : Int)) = false := decide_eq_false j2
              have hok : okPair (ky, vl) = true := by
                unfold okPair
                cases ky with
                | nil => exact absurd rfl k0
                | cons a r =>
                  cases vl with
                  | nil => exact absurd rfl v0
                  | cons b t => simp at k1 v1 ⊢; omega
              have hsa := HS.out.alloc (.cells #[.string ⟨ky.toArray⟩, .string ⟨vl.toArray⟩] 40)
              have hlk := hsa.lookup ky (by unfold maxLen; omega)
              obtain ⟨L, hL⟩ : ∃ L, (ps.take k).map Prod.fst = L := ⟨_, rfl⟩
              obtain ⟨cb, hcb⟩ : ∃ b, L.contains ky = b := ⟨_, rfl⟩
              have hst := HST.out
              rw [hok, hL, hcb] at hst
              rw [hL] at htk hsa
              rw [hL, hcb] at hlk
              have HSA := Lib.hid hsa
              have HTK := Lib.hid htk
              have HST2 := Lib.hid hst
              clear hst hsa htk HRF HST hok hL hcb HS
              cases cb with
              | true =>
                obtain rfl : rr = false := by
                  rw [← HR.out]
                  unfold rightP
                  rw [HST2.out]
                  simp
                go_wp2_with fail
                go_ret
                exact ⟨rfl, HBL.out⟩
              | false =>
                have HF2 : Hid (rightFrom [] ps = rightFrom (ps.take (k + 1)) (ps.drop (k + 1))) := Lib.hid (by rw [HST2.out]; rfl)
                obtain ⟨D, hD1, hD2⟩ := HSA.out
                have HD1 := Lib.hid hD1
                have HD2 := Lib.hid hD2
                clear HST2 hD1 hD2 HSA
                go_wp2_with (at_mapUpdate; refine wpList_mapUpdate_own _ rfl _ _ _ 51 rfl 9 4 keyedS Tryz.underlying51 (plainElem Tryz.prog 4) w.heap.size k D rfl HD1.out ?m1 _ _ (.string ky) rfl rfl ?m2 (.lit (.bool true)) [] ?m3 ?_)
                case m1 => unfold maxLen; omega
                case m2 => exact WideMaps.keyOf_string_mk Tryz.underlying9 (s := ⟨ky.toArray⟩) (by unfold maxLen; omega)
                case m3 => exact plainElem_bool Tryz.underlying4 true
                intro w2 ho2 hg2
                have HS2 : Hid (SeenAt w2 w.heap.size (k + 1) ((ps.take (k + 1)).map Prod.fst)) := Lib.hid (by rw [HTK.out]; exact SeenAt.update HD1.out.isMap ho2 HD2.out)
                have HB2 := Lib.hid (HBL.out.grown hg2 HBL.out.size (fun r e => by cases e; exact Nat.le_refl _))
                clear ho2 hg2 HD1 HD2
                go_wp2_with fail
                go_roundw
                case rel => exact ⟨k + 1, by omega, by go_num, HS2.out, HF2.out, HB2.out⟩
                case measure => simp [RowKit.intOf]; omega
    · have hkn : k = n := by omega
      have g2 : ¬ (k : Int) < n := by omega
      have hf := HF.out
      rw [List.drop_of_length_le (by rw [HN.out]; omega)] at hf
      have hr : rr = decide (n ≤ 200) := by
        rw [← HR.out]
        unfold rightP
        rw [hf, HN.out]
        show (decide (n ≤ 200) && true) = _
        rw [Bool.and_true]
      have HRE := Lib.hid (show (Value.bool (decide ((n : Int) ≤ 200))) = .bool rr from by rw [hr]; congr 1; exact decide_eq_decide.2 (by omega))
      clear hf hr hkn
      go_wp2_with fail
      go_ret
      refine ⟨?_, HBW.out⟩
      show Ending.returned (.bool (decide ((n : Int) ≤ 200))) = _
      rw [HRE.out]
end Go.Proofs.YthicdhnjincflaaGreatDoor
