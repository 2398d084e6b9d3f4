/- Contract of proof.fits. -/
import Derived.Test.YthicdhnjincflaaDoorPrfF
import Derived.Test.YthicdhnjincflaaDoorNibsC
import Derived.Test.YthicdhnjincflaaDoorTxtS
import Derived.Test.YthicdhnjincflaaDoorKrcC
namespace Go.Proofs.YthicdhnjincflaaDoor
open Go.RowKit Go.Shelf Go.Lib
attribute [local go_sem] Oper.semAt_some

theorem Strs.cell {w : World} {p : Option Addr} {n c : Nat} {xs : List ByteArray} (h : Strs w (.slice p n c) xs) (hne : xs ≠ []) : ∃ bk o, p = some ⟨bk, o, none⟩ ∧ bk < w.heap.size ∧ ∀ (j : Nat) x, xs[j]? = some x → w.cell? ⟨bk, o + j, none⟩ = some (.string x) := by
  obtain ⟨p', c', hv, _, h⟩ := h
  cases hv
  rcases h with h | h
  · exact absurd h hne
  · exact h
def FitsTo (xs : List (List UInt8)) (k : Nat) : Prop := ∀ (j : Nat) y, j < k → xs[j]? = some y → y.length ≤ 65536
theorem fits_bad {root : List UInt8} {xs : List (List UInt8)} {k : Nat} {y : List UInt8} (hy : xs[k]? = some y) (hl : ¬ y.length ≤ 65536) : sizesP root xs = false := by
  unfold sizesP
  rw [List.all_eq_false.2 ⟨y, List.mem_of_getElem? hy, by simpa using hl⟩]
  rfl
theorem fits_good {root : List UInt8} {xs : List (List UInt8)} (h : FitsTo xs xs.length) : sizesP root xs = (decide (root.length = 32) && decide (xs.length ≤ 140)) := by
  unfold sizesP
  rw [List.all_eq_true.2 (fun y hy => by
    obtain ⟨j, hj⟩ := List.getElem?_of_mem hy
    have hlt : j < xs.length := (List.getElem?_eq_some_iff.1 hj).1
    exact decide_eq_true (h j y hlt hj))]
  rfl
set_option maxRecDepth 100000 in
set_option maxHeartbeats 3200000 in
theorem fits_any (root : List UInt8) (xs : List (List UInt8)) (v : Value) (w : World) (hv : Strs w v (xs.map bt)) (hN : xs.length ≤ 1099511627776) :
    Calls Tryd.prog 36 #[.string ⟨root.toArray⟩, v] w fun e w' => e = .returned (.bool (sizesP root xs)) ∧ w' = w := by
  obtain ⟨p, c, rfl, _⟩ := id hv
  obtain ⟨rp, hrp⟩ : ∃ r, sizesP root xs = r := ⟨_, rfl⟩
  obtain ⟨n, hn⟩ : ∃ n, xs.length = n := ⟨_, rfl⟩
  rw [List.length_map] at hv
  rw [List.length_map]
  rw [hn] at hN hv
  rw [hrp, hn]
  have HR := Lib.hid hrp
  have HN := Lib.hid hn
  have HV := Lib.hid hv
  have hrs : (⟨root.toArray⟩ : ByteArray).size = root.length := rfl
  obtain ⟨rl, hrl⟩ : ∃ n, root.length = n := ⟨_, rfl⟩
  rw [hrl] at hrs
  have HRL := Lib.hid hrl
  clear hrp hn hv hrl
  go_enter Tryd.func36, Tryd.ntmps36
  go_wp2_with fail
  go_loopw [9] (fun i wr => ∃ k : Nat, k ≤ n ∧ i = .int .i64 k ∧ Aside (FitsTo xs k) ∧ wr = w) (fun i _ => n - (RowKit.intOf i).toNat)
  case atStart => exact ⟨0, Nat.zero_le _, rfl, (fun i q h => by omega), rfl⟩
  case round =>
    obtain ⟨k, hk, rfl, HOK, rfl⟩ := hrel
    have g2 : (0 : Int) ≤ k := by omega
    by_cases hlt : k < n
    · obtain ⟨x, hx⟩ : ∃ x, xs[k]? = some x := ⟨_, List.getElem?_eq_getElem (by rw [HN.out]; exact hlt)⟩
      obtain ⟨bk, ob, rfl, hbk, hcl⟩ := HV.out.cell (by intro h; have := congrArg List.length h; simp [HN.out] at this; omega)
      have c1 : wr.cell? ⟨bk, ob + k, none⟩ = some (.string ⟨x.toArray⟩) := hcl k (bt x) (by rw [List.getElem?_map, hx]; rfl)
      have HX := Lib.hid hx
      have hs1 : (⟨x.toArray⟩ : ByteArray).size = x.length := rfl
      obtain ⟨kl, hkl⟩ : ∃ n, x.length = n := ⟨_, rfl⟩
      rw [hkl] at hs1
      have HKL := Lib.hid hkl
      have g3 : (k : Int) < n := by omega
      clear hx hcl hkl
      by_cases h1 : 65536 < kl
      · have j1 : (65536 : Int) < kl := by omega
        have hf : rp = false := HR.out.symm.trans (fits_bad HX.out (by rw [HKL.out]; omega))
        subst hf
        clear h1
        go_wp2_with fail
        go_ret
        exact ⟨rfl, rfl⟩
      · have j1 : ¬ ((65536 : Int) < kl) := by omega
        have j1d : decide ((65536 : Int) < kl) = false := decide_eq_false j1
        have hstep : FitsTo xs (k + 1) := fun j y hj hy => by
          by_cases he : j = k
          · subst he
            rw [HX.out] at hy
            cases hy
            rw [HKL.out]; omega
          · exact HOK j y (by omega) hy
        have HST := Lib.hid hstep
        clear hstep h1
        go_wp2_with fail
        refine ⟨⟨k + 1, by omega, rfl, HST.out, trivial⟩, ?_⟩
        show n - ((k : Int) + 1).toNat < n - ((k : Int)).toNat
        omega
    · have hkn : k = n := by omega
      subst hkn
      have g3 : ¬ (k : Int) < k := by omega
      have hg : rp = (decide (rl = 32) && decide (k ≤ 140)) := by
        rw [← HR.out, fits_good (by rw [HN.out]; exact HOK), HRL.out, HN.out]
      clear HOK
      by_cases h1 : rl = 32
      · have j1 : (rl : Int) = 32 := by omega
        rw [decide_eq_true h1, Bool.true_and] at hg
        have j2 : decide ((k : Int) ≤ 140) = rp := by rw [hg]; exact decide_eq_decide.2 (by omega)
        have HG := Lib.hid hg
        clear hg
        go_wp2_with fail
        go_ret
        exact ⟨by rw [HG.out]; rfl, rfl⟩
      · have j1 : ¬ (rl : Int) = 32 := by omega
        rw [decide_eq_false h1, Bool.false_and] at hg
        subst hg
        go_wp2_with fail
        go_ret
        exact ⟨rfl, rfl⟩
end Go.Proofs.YthicdhnjincflaaDoor
/- proof.Check: the tests ahead of the walk. -/
namespace Go.Proofs.YthicdhnjincflaaDoor
open Go.RowKit Go.Shelf Go.Lib
attribute [local go_sem] Oper.semAt_some

/-- what Check answers -/
def checkV (r : List UInt8 × Int) : Value := .tuple #[.string ⟨r.1.toArray⟩, .bool (!r.1.isEmpty), .int .i64 r.2]
set_option maxRecDepth 100000 in
set_option maxHeartbeats 6400000 in
theorem check_bad_any (root key : List UInt8) (xs : List (List UInt8)) (v : Value) (w : World) (hv : Strs w v (xs.map bt)) (hN : xs.length ≤ 1099511627776) (hb : (sizesP root xs && keyOk key) = false) :
    Calls Tryd.prog 14 #[.string ⟨root.toArray⟩, .string ⟨key.toArray⟩, v] w fun e w' => e = .returned (checkV ([], 2)) ∧ Below w.heap.size w w' := by
  have hf := fits_any root xs v w hv hN
  obtain ⟨p, c, rfl, _⟩ := id hv
  obtain ⟨sz, hsz⟩ : ∃ b, sizesP root xs = b := ⟨_, rfl⟩
  rw [hsz] at hf hb
  obtain ⟨n, hn⟩ : ∃ n, (xs.map bt).length = n := ⟨_, rfl⟩
  rw [hn] at hf ⊢
  have HF := Lib.hid hf
  have hks : (⟨key.toArray⟩ : ByteArray).size = key.length := rfl
  have HK := Lib.hid hb
  clear hf hsz hn hb hv
  cases sz with
  | false =>
    clear HK hks
    go_enter Tryd.func14, Tryd.ntmps14
    go_wp2_with fail
    refine wp_scope_straight ?_
    go_wp2_with fail
    refine HF.out.mono ?_
    rintro e w1 ⟨rfl, rfl⟩
    go_wp2_with fail
    simp only [Exit.noGoto]
    change bodyPost _ _ _ Exit.ret _ _
    go_ret3
    exact ⟨rfl, Below.refl _ _⟩
  | true =>
    have hk : keyOk key = false := by have h := HK.out; simpa using h
    cases key with
    | nil =>
      clear HK hks hk
      go_enter Tryd.func14, Tryd.ntmps14
      go_wp2_with fail
      refine wp_scope_straight ?_
      go_wp2_with fail
      refine HF.out.mono ?_
      rintro e w1 ⟨rfl, rfl⟩
      go_wp2_with fail
      simp only [Exit.noGoto]
      change bodyPost _ _ _ Exit.ret _ _
      go_ret3
      exact ⟨rfl, Below.refl _ _⟩
    | cons a r =>
      have h64 : 64 < r.length + 1 := by
        unfold keyOk at hk
        simp at hk
        omega
      have hks : (⟨(a :: r).toArray⟩ : ByteArray).size = r.length + 1 := rfl
      have j1 : (64 : Int) < (r.length : Int) + 1 := by omega
      clear HK hk h64
      go_enter Tryd.func14, Tryd.ntmps14
      go_wp2_with fail
      refine wp_scope_straight ?_
      go_wp2_with fail
      refine HF.out.mono ?_
      rintro e w1 ⟨rfl, rfl⟩
      go_wp2_with fail
      simp only [Exit.noGoto]
      change bodyPost _ _ _ Exit.ret _ _
      go_ret3
      exact ⟨rfl, Below.refl _ _⟩
set_option maxRecDepth 100000 in
set_option maxHeartbeats 6400000 in
/-- no text, and the root of the empty trie -/
theorem check_nought_any (root key : List UInt8) (p : Option Addr) (c : Nat) (w : World) (hK : KecT w) (hg : (sizesP root [] && keyOk key) = true) (hr : keccakL [128] = root) :
    Calls Tryd.prog 14 #[.string ⟨root.toArray⟩, .string ⟨key.toArray⟩, .slice p 0 c] w fun e w' => e = .returned (checkV ([], 0)) ∧ Below w.heap.size w w' := by
  rw [Bool.and_eq_true] at hg
  obtain ⟨h1, h2⟩ := hg
  have hf := fits_any root [] (.slice p 0 c) w ⟨p, c, rfl, Nat.zero_le _, .inl rfl⟩ (by decide)
  rw [h1] at hf
  have HF := Lib.hid hf
  have HKT := Lib.hid hK
  have HRT := Lib.hid hr
  cases key with
  | nil => simp [keyOk] at h2
  | cons a r =>
    have h64 : r.length + 1 ≤ 64 := by
      unfold keyOk at h2
      simp at h2
      omega
    have hks : (⟨(a :: r).toArray⟩ : ByteArray).size = r.length + 1 := rfl
    have j1 : ¬ (64 : Int) < (r.length : Int) + 1 := by omega
    have j1d : decide ((64 : Int) < (r.length : Int) + 1) = false := decide_eq_false j1
    have hb := (laid1 w (.cells #[.string ⟨#[128]⟩] 9))
    have HS := Lib.hid (kecOne_l hr w.heap.size 0 _ (by simp) (by decide) (HKT.out.belowP hb))
    have HB := Lib.hid hb
    clear h64 h1 h2 hf hK hr hb
    go_enter Tryd.func14, Tryd.ntmps14
    go_wp2_with fail
    refine wp_scope_straight ?_
    go_wp2_with fail
    refine HF.out.mono ?_
    rintro e w1 ⟨rfl, rfl⟩
    go_wp2_with fail
    refine HS.out.mono ?_
    rintro e w2 ⟨rfl, hb2⟩
    have HB2 := Lib.hid (HB.out.trans (hb2.mono HB.out.size))
    clear hb2
    go_wp2_with fail
    simp only [Exit.noGoto]
    change bodyPost _ _ _ Exit.ret _ _
    go_ret3
    exact ⟨rfl, HB2.out⟩
end Go.Proofs.YthicdhnjincflaaDoor

/- proof.Check: the walk. -/
namespace Go.Proofs.YthicdhnjincflaaDoor
open Go.RowKit Go.Shelf Go.Lib
attribute [local go_sem] Oper.semAt_some

set_option maxHeartbeats 1600000 in
theorem rlpText_any (s : List UInt8) (w : World) : Calls Tryd.prog 39 #[.string ⟨s.toArray⟩] w fun e w' => e = .returned (.agg #[.bool false, .string ⟨s.toArray⟩, .slice none 0 0]) ∧ Below w.heap.size w w' := by
  go_enter Tryd.func39, Tryd.ntmps39
  go_wp2_with fail
  refine bodyPost_ret (results_cells rfl _ _ w.heap.size [.bool false, .string ⟨s.toArray⟩, .slice none 0 0] _ (by rfl) (HasCells.new w [.bool false, .string ⟨s.toArray⟩, .slice none 0 0] 58).range Tryd.underlying58 rfl infoItemS) rfl ?_
  exact ⟨rfl, laid1 w _⟩
/-- what stands between two rounds of Check's walk -/
def RoundC (B wb z : Nat) (root : List UInt8) (path : List UInt8) (l : List (List UInt8)) (gg : Nat) (W : World) : Prop :=
  ∃ (f : Nat) (y : Item) (pth : List UInt8) (rest : List (List UInt8)) (xp : Option Addr) (xn xc : Nat) (q : Option Addr) (c : Nat),
    pth.length ≤ gg ∧ pth.length < f ∧ underP keccakL f y pth rest = underP keccakL 129 (txtI root) path l ∧ isPath pth = true ∧ pth.length ≤ 128 ∧
    HasCells W wb [.string ⟨pth.toArray⟩, .slice q rest.length c, .string ⟨#[]⟩] 55 ∧ HasCells W z [.bool y.isList, .string ⟨y.text.toArray⟩, .slice xp xn xc] 58 ∧
    RZ z W (.slice xp xn xc) y.list ∧ (y.isList = true → Small y) ∧ StrsB B W (.slice q rest.length c) (rest.map bt) ∧ (∀ t ∈ rest, t.length ≤ 65536) ∧ rest.length ≤ 140 ∧ (∀ W', Below B W W' → KecT W') ∧ B ≤ wb ∧ wb < z
theorem nodeOf_rest {ref x : Item} {rest rest2 : List (List UInt8)} (h : nodeOf keccakL ref rest = some (x, rest2)) : rest2 = rest ∨ ∃ s, rest = s :: rest2 := by
  have h2 := (node_node keccakL h).2
  unfold openP at h2
  split at h2
  · simp only [Option.some.injEq, Prod.mk.injEq] at h2
    exact .inl h2.2.symm
  · split at h2
    · cases h2
    · rename_i s r
      split at h2
      · simp only [Option.some.injEq, Prod.mk.injEq] at h2
        exact .inr ⟨s, by rw [h2.2]⟩
      · cases h2
theorem RoundC.start {root path s : List UInt8} {l : List (List UInt8)} {n c : Nat} {p : Option Addr} {w1 w2 w3 : World} (hn : l.length = n) (hp : path.length ≤ 128) (hip : isPath path = true)
    (hs : StrsB w1.heap.size w1 (.slice p (n + 1) c) ((s :: l).map bt)) (hb2 : Below w1.heap.size w1 w2)
    (hb3 : Below (w2.alloc (.cells #[.string ⟨path.toArray⟩, .slice p (n + 1) c, .string ⟨#[]⟩] 55)).heap.size (w2.alloc (.cells #[.string ⟨path.toArray⟩, .slice p (n + 1) c, .string ⟨#[]⟩] 55)) w3)
    (h64 : ∀ t ∈ s :: l, t.length ≤ 65536) (h140 : (s :: l).length ≤ 140) (hK : KecT w1) :
    RoundC w1.heap.size w2.heap.size w3.heap.size root path (s :: l) 128 (w3.alloc (.cells #[.bool false, .string ⟨root.toArray⟩, .slice none 0 0] 58)) ∧ Below w1.heap.size w1 (w3.alloc (.cells #[.bool false, .string ⟨root.toArray⟩, .slice none 0 0] 58)) := by
  subst hn
  have hb23 : Below w1.heap.size w1 w3 := hb2.trans (((laid1 w2 _).mono hb2.size).trans (hb3.mono (by have := hb2.size; simp; omega)))
  refine ⟨?_, hb23.alloc hb23.size _⟩
  refine ⟨129, txtI root, path, s :: l, none, 0, 0, p, c, hp, by omega, rfl, hip, hp, ?_, HasCells.new w3 [.bool false, .string ⟨root.toArray⟩, .slice none 0 0] _, ReadsIn.nil _ _, fun h => (by cases h), ?_, h64, h140, fun W' hb => hK.belowP ((hb23.alloc hb23.size _).trans hb), hb2.size, ?_⟩
  · exact ((HasCells.new w2 [.string ⟨path.toArray⟩, .slice p (l.length + 1) c, .string ⟨#[]⟩] _).after hb3).alloc _
  · exact hs.below (hb23.alloc hb23.size _)
  · have := hb3.size
    simp at this
    omega
theorem RoundC.next {B wb z : Nat} {root path pth p2 : List UInt8} {l rest rest2 : List (List UInt8)} {y x y2 : Item} {f1 g' : Nat} {xp3 : Option Addr} {xn3 xc3 : Nat} {q2 : Option Addr} {c2 : Nat} {wr w5 : World} {a b u : Value}
    (hnd : nodeOf keccakL y rest = some (x, rest2)) (hst : stepP x pth = .next y2 p2) (hf : pth.length < f1 + 1) (hg : p2.length ≤ g')
    (hun : underP keccakL (f1 + 1) y pth rest = underP keccakL 129 (txtI root) path l) (hu1 : underP keccakL (f1 + 1) y pth rest = underP keccakL f1 y2 p2 rest2) (hpt : isPath pth = true) (h128 : pth.length ≤ 128)
    (hw6 : HasCells w5 wb [.string ⟨p2.toArray⟩, .slice q2 rest2.length c2, .string ⟨#[]⟩] 55) (hz7 : HasCells (w5.alloc (.cells #[.bool y2.isList, .string ⟨y2.text.toArray⟩, .slice xp3 xn3 xc3] 58)) z [a, b, u] 58) (hrz : RZ z w5 (.slice xp3 xn3 xc3) y2.list) (hsm2 : Small x)
    (hst2 : StrsB B w5 (.slice q2 rest2.length c2) (rest2.map bt)) (h64 : ∀ t ∈ rest, t.length ≤ 65536) (h140 : rest.length ≤ 140) (hkt : ∀ W', Below B wr W' → KecT W') (hB5 : B ≤ w5.heap.size) (hBw : B ≤ wb) (hwz : wb < z) (hb5 : Below B wr w5) :
    RoundC B wb z root path l g' ((((w5.alloc (.cells #[.bool y2.isList, .string ⟨y2.text.toArray⟩, .slice xp3 xn3 xc3] 58)).setCell ⟨z, 0, none⟩ (.bool y2.isList)).setCell ⟨z, 1, none⟩ (.string ⟨y2.text.toArray⟩)).setCell ⟨z, 2, none⟩ (.slice xp3 xn3 xc3)) := by
  have hnx := (node_node keccakL hnd).1
  have hsh := step_short hnx hst
  have hb8 := laid1 w5 (.cells #[.bool y2.isList, .string ⟨y2.text.toArray⟩, .slice xp3 xn3 xc3] 58)
  have hb9 := three_at (hb8.mono hB5) (show B ≤ z by omega) (.bool y2.isList) (.string ⟨y2.text.toArray⟩) (.slice xp3 xn3 xc3)
  have hr := nodeOf_rest hnd
  refine ⟨f1, y2, p2, rest2, xp3, xn3, xc3, q2, c2, hg, by omega, hu1.symm.trans hun, hsh.2 hpt, by omega, (hw6.alloc _).threeOther (by omega) _ _ _, ((hz7.set 0 _).set 1 _).set 2 _, ?_, fun _ => (hsm2.child (step_mem hnx hst hpt).1).1, hst2.below hb9, ?_, ?_, ?_, hBw, hwz⟩
  · exact ReadsIn.kept (hrz.below hb8) (fun g _ o hg hc => three_other hc hg.2 _ _ _) (fun g hg => ⟨by simpa using hg.1, hg.2⟩)
  · rcases hr with rfl | ⟨s, rfl⟩
    · exact h64
    · exact fun t ht => h64 t (List.mem_cons_of_mem _ ht)
  · rcases hr with rfl | ⟨s, rfl⟩
    · exact h140
    · simp at h140; omega
  · exact fun W' hb => hkt W' (hb5.trans (hb9.trans hb))
set_option maxRecDepth 100000 in
set_option maxHeartbeats 6400000 in
theorem check_walk_any (root key : List UInt8) (s : List UInt8) (l : List (List UInt8)) (v : Value) (w : World) (hv : Strs w v ((s :: l).map bt)) (hN : (s :: l).length ≤ 1099511627776) (hK : KecT w) (hg : (sizesP root (s :: l) && keyOk key) = true) :
    Calls Tryd.prog 14 #[.string ⟨root.toArray⟩, .string ⟨key.toArray⟩, v] w fun e w' => e = .returned (checkV (checkP keccakL root key (s :: l))) ∧ Below w.heap.size w w' := by
  have hg0 := hg
  rw [Bool.and_eq_true] at hg
  obtain ⟨h1, h2⟩ := hg
  have hf := fits_any root (s :: l) v w hv hN
  rw [h1] at hf
  obtain ⟨p, c, rfl, _⟩ := id hv
  obtain ⟨n, hn⟩ : ∃ n, l.length = n := ⟨_, rfl⟩
  have hne : ((s :: l).map bt).length = n + 1 := by rw [← hn]; simp
  rw [hne] at hf ⊢
  have HF := Lib.hid hf
  have HKT := Lib.hid hK
  have HV := Lib.hid hv
  obtain ⟨rr, hrr⟩ : ∃ r, checkP keccakL root key (s :: l) = r := ⟨_, rfl⟩
  rw [hrr]
  rw [check_some hg0] at hrr
  have HRR := Lib.hid hrr
  clear hg0
  have HN := Lib.hid hn
  cases key with
  | nil => simp [keyOk] at h2
  | cons a r =>
    have h64 : r.length + 1 ≤ 64 := by
      unfold keyOk at h2
      simp at h2
      omega
    have hks : (⟨(a :: r).toArray⟩ : ByteArray).size = r.length + 1 := rfl
    have j1 : ¬ (64 : Int) < (r.length : Int) + 1 := by omega
    have j1d : decide ((64 : Int) < (r.length : Int) + 1) = false := decide_eq_false j1
    have hof := of_any ⟨(a :: r).toArray⟩ w (by rw [hks]; omega)
    rw [show (⟨(a :: r).toArray⟩ : ByteArray).data.toList = a :: r from rfl] at hof
    obtain ⟨path, hpath⟩ : ∃ q, halves (a :: r) = q := ⟨_, rfl⟩
    rw [hpath] at hof
    have HOF := Lib.hid hof
    have HPA := Lib.hid hpath
    have HH := Lib.hid h1
    have H64K := Lib.hid (show 2 * (r.length + 1) ≤ 128 by omega)
    have z1 : ((n : Int) + 1 == 0) = false := by rw [beq_eq_false_iff_ne]; omega
    clear h64 h1 h2 hf hK hv hrr hof hpath hne hN hn
    go_enter Tryd.func14, Tryd.ntmps14
    go_wp2_with fail
    refine wp_scope_straight ?_
    go_wp2_with fail
    refine HF.out.mono ?_
    rintro e w1 ⟨rfl, rfl⟩
    go_wp2_with fail
    refine HOF.out.mono ?_
    rintro e w2 ⟨rfl, hb2⟩
    go_wp2_with fail
    refine (rlpText_any root _).mono ?_
    rintro e w3 ⟨rfl, hb3⟩
    go_wp2_with fail
    refine wp_label ?_
    go_wp2_with fail
    go_loopg [] 128 (fun gg wr => Aside (RoundC w1.heap.size w2.heap.size w3.heap.size root path (s :: l) gg wr) ∧ Aside (Below w1.heap.size w1 wr))
    case atStart =>
      have hz := HH.out
      unfold sizesP at hz
      simp only [Bool.and_eq_true, List.all_eq_true, decide_eq_true_eq] at hz
      have hpl : path.length ≤ 128 := by rw [← HPA.out, halves_length]; simpa using H64K.out
      exact RoundC.start HN.out hpl (by rw [← HPA.out]; exact isPath_halves _) (by have := HV.out.bound; simpa [HN.out] using this) hb2 hb3 hz.1 hz.2.2 HKT.out
    case round =>
      obtain ⟨⟨f, y, pth, rest, xp, xn, xc, q, c', hgk, hf, hun, hpt, h128, hw, hz, hrz, hsm, hst, h64, h140, hkt, hBw, hwz⟩, HB⟩ := hrel
      have HND : Hid (Calls Tryd.prog 40 #[.pointer (some ⟨w2.heap.size, 0, none⟩), .agg #[.bool y.isList, .string ⟨y.text.toArray⟩, .slice xp xn xc]] wr (NodeRes w1.heap.size w2.heap.size w3.heap.size ⟨pth.toArray⟩ ⟨#[]⟩ (nodeOf keccakL y rest) wr)) := by
        refine Lib.hid ?_
        have hB := HB.out.size
        by_cases hyl : y.isList = true
        · exact walkNode_list w1.heap.size w2.heap.size w3.heap.size y xp xn xc ⟨pth.toArray⟩ ⟨#[]⟩ rest q c' wr hB hw.lt hyl hrz (hsm hyl) hw hst
        · have hyf : y.isList = false := by simpa using hyl
          cases rest with
          | nil => exact walkNode_nil w1.heap.size w2.heap.size w3.heap.size y xp xn xc ⟨pth.toArray⟩ ⟨#[]⟩ q c' wr hB hyf hw
          | cons s2 r2 => exact walkNode_cons w1.heap.size w2.heap.size w3.heap.size y xp xn xc ⟨pth.toArray⟩ ⟨#[]⟩ s2 r2 q c' wr hB hBw hz.lt hyf (by have := h64 s2 (by simp); omega) (by simp at h140; omega) hw (by simpa using hst) hkt
      have z0 := hz.cell (j := 0) rfl
      have z1' := hz.cell (j := 1) rfl
      have z2 := hz.cell (j := 2) rfl
      have HUN := Lib.hid hun
      have HPT := Lib.hid hpt
      have HZ := Lib.hid hz
      have HB2 := Lib.hid HB.out
      have HKT2 := Lib.hid hkt
      have H64 := Lib.hid h64
      clear hw hz hrz hsm hst h64 hun hkt hpt HB
      go_wp2_with fail
      refine HND.out.mono ?_
      rintro e w4 ⟨hup, hres⟩
      obtain ⟨f1, rfl⟩ : ∃ f1, f = f1 + 1 := ⟨f - 1, by omega⟩
      cases hnd : nodeOf keccakL y rest with
      | none =>
        rw [hnd] at hres
        obtain ⟨b3, s3, p3, n3, c3, rfl⟩ := hres
        have hu0 : underP keccakL (f1 + 1) y pth rest = none := by unfold underP; rw [hnd]
        have hrr : rr = ([], 70) := by
          rw [← HRR.out]
          unfold foundP
          rw [HPA.out, ← HUN.out, hu0]
        have HB4 := Lib.hid (HB2.out.trans hup.1)
        subst hrr
        clear HRR hu0 hup z0 z1' z2 hnd
        go_wp2_with fail
        simp only [Exit.noGoto]
        change bodyPost _ _ _ Exit.ret _ _
        go_ret3
        exact ⟨rfl, HB4.out.alloc HB4.out.size _⟩
      | some xr =>
        obtain ⟨x, rest2⟩ := xr
        rw [hnd] at hres
        obtain ⟨xp2, xn2, xc2, q2, c2, rfl, hrz2, hsm2, hw2, hst2⟩ := hres
        have hnx := (node_node keccakL hnd).1
        have hb4 := laid1 w4 (.cells #[.bool x.isList, .string ⟨x.text.toArray⟩, .slice xp2 xn2 xc2] 58)
        have HB4 := Lib.hid (HB2.out.trans hup.1)
        have HST := Lib.hid (walkStep_any w1.heap.size w2.heap.size w3.heap.size x xp2 xn2 xc2 pth q2 rest2.length c2 _ (Nat.le_trans HB4.out.size hb4.size) hBw hnx hsm2 HPT.out (by omega) (hrz2.below hb4) (hw2.after hb4))
        have HW4 := Lib.hid (hw2.after hb4)
        have HS4 := Lib.hid (hst2.below (hb4.mono HB4.out.size))
        have HB5 := Lib.hid (HB4.out.trans (hb4.mono HB4.out.size))
        have HUP := Lib.hid hup
        have HND2 := Lib.hid hnd
        clear z0 z1' z2 hrz2 hw2 hst2 hb4 hup hnd
        go_wp2_with fail
        refine HST.out.mono ?_
        rintro e w5 ⟨hup5, hres5⟩
        have hu1 : underP keccakL (f1 + 1) y pth rest = (match stepP x pth with
          | .stop v => some (v, rest2)
          | .next y2 p2 => underP keccakL f1 y2 p2 rest2) := by
          conv => lhs; unfold underP
          rw [HND2.out]
          rfl
        cases hst : stepP x pth with
        | stop v =>
          rw [hst] at hres5 hu1
          obtain ⟨b6, s6, p6, n6, c6, path6, rfl, hw6⟩ := hres5
          have HW6 := Lib.hid hw6
          have HB6 := Lib.hid (HB5.out.trans hup5.1)
          have HU1 := Lib.hid hu1
          have hw7 := hw6.alloc (.cells #[.bool b6, .string s6, .slice p6 n6 c6] 58)
          have k1 := hw7.cell (j := 1) rfl
          have k2 := hw7.cell (j := 2) rfl
          clear hw6 hup5 hst hu1 hw7
          cases rest2 with
          | nil =>
            have hrr : rr = (v, 0) := by
              rw [← HRR.out]
              unfold foundP
              rw [HPA.out, ← HUN.out, HU1.out]
            clear HRR
            go_wp2_with fail
            refine wp_region_held_drew (S := (fun W => W.cell? ⟨w2.heap.size, 2, none⟩ = some (.string (bt v)))) (by kernel_rfl) (k2) (fun hHeld => ?_)
            refine wpAnyH_take (i := 0) (v := ?_) rfl (by kernel_rfl) (by kernel_rfl) (by kernel_rfl) (fun _ _ _ h => h) (.inl ⟨by rfl, ?_⟩) (by assumption) ?_
            rotate_left 1
            · intro w0 hSw
              go_simp <;> with_reducible rfl
            try simp only [Act.put, List.getElem_toArray, List.getElem_cons_zero, List.setIfInBounds_toArray, List.set_cons_zero, List.set_cons_succ]
            refine wpAnyH_take (i := 1) (v := ?_) rfl (by kernel_rfl) (by kernel_rfl) (by kernel_rfl) (fun _ _ _ h => h) (.inl ⟨by rfl, ?_⟩) (by assumption) ?_
            rotate_left 1
            · intro w0 hSw
              go_simp <;> with_reducible rfl
            try simp only [Act.put, List.getElem_toArray, List.getElem_cons_zero, List.getElem_cons_succ, List.setIfInBounds_toArray, List.set_cons_zero, List.set_cons_succ]
            refine wpAnyH_take (i := 2) (v := ?_) rfl (by kernel_rfl) (by kernel_rfl) (by kernel_rfl) (fun _ _ _ h => h) (.inl ⟨by rfl, ?_⟩) (by assumption) ?_
            rotate_left 1
            · intro w0 hSw
              go_simp <;> with_reducible rfl
            try simp only [Act.put, List.getElem_toArray, List.getElem_cons_zero, List.getElem_cons_succ, List.setIfInBounds_toArray, List.set_cons_zero, List.set_cons_succ]
            refine wpAnyH_take (i := 3) (v := ?_) rfl (by kernel_rfl) (by kernel_rfl) (by kernel_rfl) (fun _ _ _ h => h) (.inl ⟨by rfl, ?_⟩) (by assumption) ?_
            rotate_left 1
            · intro w0 hSw
              have z9 := hSw
              go_simp <;> with_reducible rfl
            try simp only [Act.put, List.getElem_toArray, List.getElem_cons_zero, List.getElem_cons_succ, List.setIfInBounds_toArray, List.set_cons_zero, List.set_cons_succ]
            refine wpAnyH_take (i := 4) (v := ?_) rfl (by kernel_rfl) (by kernel_rfl) (by kernel_rfl) (fun _ _ _ h => h) (.inl ⟨by rfl, ?_⟩) (by assumption) ?_
            rotate_left 1
            · intro w0 hSw
              go_simp <;> with_reducible rfl
            try simp only [Act.put, List.getElem_toArray, List.getElem_cons_zero, List.getElem_cons_succ, List.setIfInBounds_toArray, List.set_cons_zero, List.set_cons_succ]
            refine wpAnyH_take (i := 5) (v := ?_) rfl (by kernel_rfl) (by kernel_rfl) (by kernel_rfl) (fun _ _ _ h => h) (.inl ⟨by rfl, ?_⟩) (by assumption) ?_
            rotate_left 1
            · intro w0 hSw
              go_simp <;> with_reducible rfl
            try simp only [Act.put, List.getElem_toArray, List.getElem_cons_zero, List.getElem_cons_succ, List.setIfInBounds_toArray, List.set_cons_zero, List.set_cons_succ]
            refine wpAnyH_take (i := 6) (v := ?_) rfl (by kernel_rfl) (by kernel_rfl) (by kernel_rfl) (fun _ _ _ h => h) (.inl ⟨by rfl, ?_⟩) (by assumption) ?_
            rotate_left 1
            · intro w0 hSw
              go_simp <;> with_reducible rfl
            try simp only [Act.put, List.getElem_toArray, List.getElem_cons_zero, List.getElem_cons_succ, List.setIfInBounds_toArray, List.set_cons_zero, List.set_cons_succ]
            refine wpAnyH_take (i := 7) (v := ?_) rfl (by kernel_rfl) (by kernel_rfl) (by kernel_rfl) (fun _ _ _ h => h) (.inl ⟨by rfl, ?_⟩) (by assumption) ?_
            rotate_left 1
            · intro w0 hSw
              have z9 := hSw
              go_simp <;> with_reducible rfl
            try simp only [Act.put, List.getElem_toArray, List.getElem_cons_zero, List.getElem_cons_succ, List.setIfInBounds_toArray, List.set_cons_zero, List.set_cons_succ]
            refine wpAnyH_take (i := 8) (v := ?_) rfl (by kernel_rfl) (by kernel_rfl) (by kernel_rfl) (fun _ _ _ h => h) (.inl ⟨by rfl, ?_⟩) (by assumption) ?_
            rotate_left 1
            · intro w0 hSw
              go_simp <;> with_reducible rfl
            try simp only [Act.put, List.getElem_toArray, List.getElem_cons_zero, List.getElem_cons_succ, List.setIfInBounds_toArray, List.set_cons_zero, List.set_cons_succ]
            refine wpAnyH_take (i := 9) (v := ?_) rfl (by kernel_rfl) (by kernel_rfl) (by kernel_rfl) (fun _ _ _ h => h) (.inl ⟨by rfl, ?_⟩) (by assumption) ?_
            rotate_left 1
            · intro w0 hSw
              go_simp <;> with_reducible rfl
            try simp only [Act.put, List.getElem_toArray, List.getElem_cons_zero, List.getElem_cons_succ, List.setIfInBounds_toArray, List.set_cons_zero, List.set_cons_succ]
            refine wpAnyH_take (i := 10) (v := ?_) rfl (by kernel_rfl) (by kernel_rfl) (by kernel_rfl) (fun _ _ _ h => h) (.inl ⟨by rfl, ?_⟩) (by assumption) ?_
            rotate_left 1
            · intro w0 hSw
              go_simp <;> with_reducible rfl
            try simp only [Act.put, List.getElem_toArray, List.getElem_cons_zero, List.getElem_cons_succ, List.setIfInBounds_toArray, List.set_cons_zero, List.set_cons_succ]
            refine wpAnyH_take (i := 11) (v := ?_) rfl (by kernel_rfl) (by kernel_rfl) (by kernel_rfl) (fun _ _ _ h => h) (.inl ⟨by rfl, ?_⟩) (by assumption) ?_
            rotate_left 1
            · intro w0 hSw
              go_simp <;> with_reducible rfl
            try simp only [Act.put, List.getElem_toArray, List.getElem_cons_zero, List.getElem_cons_succ, List.setIfInBounds_toArray, List.set_cons_zero, List.set_cons_succ]
            refine wpAnyH_done (by kernel_rfl) ?_ 0
            go_wp2_with fail
            simp only [Exit.noGoto]
            change bodyPost _ _ _ Exit.ret _ _
            go_ret3
            rw [hrr]
            refine ⟨?_, (HB6.out.alloc HB6.out.size _).drew⟩
            show Ending.returned (.tuple #[.string (bt v), .bool (!(bt v).toList.isEmpty), .int .i64 0]) = _
            rw [show (bt v).toList = v from by rw [ByteArray.toList_eq]; rfl]
            rfl
          | cons t3 r3 =>
            have hrr : rr = ([], 70) := by
              rw [← HRR.out]
              unfold foundP
              rw [HPA.out, ← HUN.out, HU1.out]
            have m1 : (0 : Int) < (r3.length : Int) + 1 := by omega
            subst hrr
            clear HRR
            go_wp2_with fail
            simp only [Exit.noGoto]
            change bodyPost _ _ _ Exit.ret _ _
            go_ret3
            exact ⟨rfl, HB6.out.alloc HB6.out.size _⟩
        | next y2 p2 =>
          rw [hst] at hres5 hu1
          obtain ⟨xp3, xn3, xc3, rfl, hrz3, hw6⟩ := hres5
          have hz4 := HZ.out.kept (HUP.out.2.2 _ HZ.out.lt (by omega))
          have hz5 := (hz4.alloc (.cells #[.bool x.isList, .string ⟨x.text.toArray⟩, .slice xp2 xn2 xc2] 58))
          have hz6 := hz5.kept (hup5.2.2 _ hz5.lt (by omega))
          have hz7 := hz6.alloc (.cells #[.bool y2.isList, .string ⟨y2.text.toArray⟩, .slice xp3 xn3 xc3] 58)
          have HZ7 := Lib.hid hz7
          have HW6 := Lib.hid hw6
          have HRZ := Lib.hid hrz3
          have HB6 := Lib.hid (HB5.out.trans hup5.1)
          have HS6 := Lib.hid (HS4.out.below hup5.1)
          have HU1 := Lib.hid hu1
          have HST2 := Lib.hid hst
          have HSH := Lib.hid (step_short hnx hst)
          have e0 := hz7.cell (j := 0) rfl
          have e1 := hz7.cell (j := 1) rfl
          have e2 := hz7.cell (j := 2) rfl
          have f0 := hz7.frozen 0
          have f1' := hz7.frozen 1
          have f2 := hz7.frozen 2
          have nz : ¬ w5.heap.size = w3.heap.size := by have := hz6.lt; omega
          have nz2 : ¬ w3.heap.size = w5.heap.size := by omega
          clear hw6 hup5 hst hu1 hz4 hz5 hz6 hz7 hrz3
          go_wp2_with fail
          go_roundg (pth.length - 1)
          case measure => have := HSH.out.1; omega
          case rel =>
            have hb9 := three_at (HB6.out.alloc HB6.out.size (.cells #[.bool y2.isList, .string ⟨y2.text.toArray⟩, .slice xp3 xn3 xc3] 58)) (show w1.heap.size ≤ w3.heap.size by omega) (.bool y2.isList) (.string ⟨y2.text.toArray⟩) (.slice xp3 xn3 xc3)
            exact ⟨RoundC.next (wr := w1) HND2.out HST2.out (by omega) (by have := HSH.out.1; omega) HUN.out HU1.out HPT.out h128 HW6.out HZ7.out HRZ.out hsm2 HS6.out H64.out h140 (fun W' hb => HKT.out.belowP hb) HB6.out.size hBw hwz HB6.out, hb9⟩
end Go.Proofs.YthicdhnjincflaaDoor

/- Contract of pharosref03.Clash. -/
namespace Go.Proofs.YthicdhnjincflaaDoor
open Go.RowKit Go.Shelf Go.Lib
attribute [local go_sem] Oper.semAt_some

/-- a text's digest -/
def kecB (x : ByteArray) : ByteArray := ⟨(keccakL x.data.toList).toArray⟩
/-- two texts are unlike and have one digest -/
def HasClashK (xs : List ByteArray) : Prop := ∃ s t, s ∈ xs ∧ t ∈ xs ∧ s ≠ t ∧ kecB s = kecB t
theorem HasClashK.places {xs : List ByteArray} (h : HasClashK xs) : ∃ (i k : Nat) (s t : ByteArray), k < i ∧ xs[i]? = some s ∧ xs[k]? = some t ∧ s ≠ t ∧ kecB s = kecB t := by
  obtain ⟨s, t, hs, ht, hn, he⟩ := h
  obtain ⟨i, hi⟩ := List.mem_iff_getElem?.1 hs
  obtain ⟨k, hk⟩ := List.mem_iff_getElem?.1 ht
  rcases Nat.lt_trichotomy i k with h | h | h
  · exact ⟨k, i, t, s, h, hk, hi, fun e => hn e.symm, he.symm⟩
  · subst h
    rw [hi] at hk
    exact absurd (Option.some.inj hk) hn
  · exact ⟨i, k, s, t, h, hi, hk, hn, he⟩
/-- two texts in their places are unlike and have one sum -/
def ClashAt (xs : List ByteArray) (i k : Nat) : Prop := ∃ s t, xs[i]? = some s ∧ xs[k]? = some t ∧ s ≠ t ∧ kecB s = kecB t
theorem neq_texts {x y : ByteArray} (h : x ≠ y) : (x.toList == y.toList) = false := by
  rw [beq_eq_false_iff_ne]
  intro e
  exact h (ByteArray.toList_inj' e)
where
  ByteArray.toList_inj' {x y : ByteArray} (e : x.toList = y.toList) : x = y := by
    rw [ByteArray.toList_eq, ByteArray.toList_eq] at e
    exact ByteArray.ext (Array.toList_inj.1 e)
theorem rksum_kecB (s : ByteArray) (w : World) (hs : s.size ≤ 1099511627776) : Calls Tryd.prog 33 #[.string s] w fun e w' => e = .returned (.string (kecB s)) ∧ Below w.heap.size w w' := rkSum_any s w hs

set_option maxRecDepth 100000 in
set_option maxHeartbeats 3200000 in
theorem clash_any (v : Value) (xs : List ByteArray) (w : World) (hv : Strs w v xs) (hN : xs.length ≤ 1048576) (hxs : ∀ x ∈ xs, x.size ≤ 1099511627776) :
    Calls Tryd.prog 21 #[v] w fun e w' => (∃ b, e = .returned (.bool b) ∧ (HasClashK xs → b = true)) ∧ Below w.heap.size w w' := by
  obtain ⟨p, c, rfl, hc, hcell⟩ := hv
  have HC := Lib.hid hcell
  have HS := Lib.hid (fun k x (h : xs[k]? = some x) W => rksum_kecB x W (hxs x (List.mem_of_getElem? h)))
  obtain ⟨n, hn⟩ : ∃ n, xs.length = n := ⟨_, rfl⟩
  rw [hn] at hN hc ⊢
  have HN := Lib.hid hn
  clear hcell hxs hn
  go_enter Tryd.func21, Tryd.ntmps21
  go_wp2_with fail
  go_loopw [3, 4] (fun v i wr => ∃ k : Nat, k ≤ n ∧ i = .int .i64 k ∧ Aside (OwnS w.heap.size wr v ((xs.take k).map kecB)) ∧ Aside (Below w.heap.size w wr)) (fun _ i _ => n - (RowKit.intOf i).toNat)
  case atStart => exact ⟨0, Nat.zero_le _, rfl, OwnS.nil _ _, Below.refl _ _⟩
  case round =>
    obtain ⟨k, hk, rfl, HO, HB⟩ := hrel
    by_cases hlt : k < n
    · obtain ⟨x, hx⟩ : ∃ x, xs[k]? = some x := ⟨_, List.getElem?_eq_getElem (by rw [HN.out]; exact hlt)⟩
      obtain ⟨bk, o, rfl, hbk, hcl⟩ : ∃ bk o, p = some ⟨bk, o, none⟩ ∧ bk < w.heap.size ∧ ∀ (j : Nat) x, xs[j]? = some x → w.cell? ⟨bk, o + j, none⟩ = some (.string x) := by
        rcases HC.out with h | ⟨bk, o, h1, h2, h3⟩
        · rw [h] at hx; cases hx
        · exact ⟨bk, o, h1, h2, h3⟩
      have c0 : wr.cell? ⟨bk, o + k, none⟩ = some (.string x) := (HB.out.cell (p := ⟨bk, o + k, none⟩) hbk).trans (hcl k x hx)
      have H1 := Lib.hid (HS.out k x hx)
      have hts : (xs.take (k + 1)).map kecB = (xs.take k).map kecB ++ [kecB x] := by rw [List.take_add_one, hx]; simp
      have hll : ((xs.take k).map kecB).length = k := by rw [List.length_map, List.length_take, HN.out]; omega
      obtain ⟨L, hL⟩ : ∃ L, (xs.take k).map kecB = L := ⟨_, rfl⟩
      have ho := HO.out
      rw [hL] at hts hll ho
      obtain ⟨pv, cv, hv⟩ := ho.form
      rw [hll] at hv
      subst hv
      obtain ⟨sx, hsx⟩ : ∃ sx, kecB x = sx := ⟨_, rfl⟩
      rw [hsx] at hts H1
      have HO1 := Lib.hid ho
      have HTS := Lib.hid hts
      have HLL := Lib.hid hll
      have g1 : (0 : Int) ≤ k := by omega
      have g2 : (k : Int) < n := by omega
      clear ho hts hll hL hsx HO hcl hx
      go_wp2_with fail
      refine (H1.out _).mono ?_
      rintro e w1 ⟨rfl, hb1⟩
      have HO2 := Lib.hid (HO1.out.after hb1)
      have HB1 := Lib.hid (HB.out.trans (hb1.mono HB.out.size))
      clear hb1 HO1 HB c0
      go_wp2_with (at_builtin; refine wpList_appendT rfl _ _ 23 rfl w.heap.size Tryd.underlying23 infoStr _ L rfl (HO2.out.kept (World.grownBy_alloc w1 _ none) (by cases hv : (Value.slice pv k cv).ownBlock <;> simp)) ⟨w1.heap.size, 0, none⟩ 1 sx rfl ?c0 ?c1 ?c2 ?_)
      case c0 => exact cells_new_at rfl [.string sx] 9 0 _ rfl
      case c1 => rw [HLL.out]; omega
      case c2 => have := HB1.out.size; simp; omega
      intro v3 w3 ho3 hg3
      have hb3 : Below w.heap.size w w3 := (HB1.out.alloc HB1.out.size _).grown hg3 (by have := HB1.out.size; simp; omega) (fun r e => (HO2.out.lt r e).1)
      rw [← HTS.out] at ho3
      have HO3 := Lib.hid ho3
      have HB3 := Lib.hid hb3
      clear ho3 hg3 hb3 HO2 HB1
      go_wp2
      go_roundw
      case rel => exact ⟨k + 1, by omega, by go_num, HO3.out, HB3.out⟩
      case measure => simp [RowKit.intOf]; omega
    · obtain rfl : k = n := by omega
      have ho := HO.out
      rw [List.take_of_length_le (by rw [HN.out]; omega)] at ho
      obtain ⟨pv, cv, hv⟩ := ho.form
      rw [List.length_map, HN.out] at hv
      subst hv
      have HO2 := Lib.hid ho
      obtain ⟨w2, hw2⟩ : ∃ w2, wr = w2 := ⟨_, rfl⟩
      rw [hw2] at HO2 HB ⊢
      clear ho HO hw2 wr hlt hk
      go_wp2_with fail
      go_loopw [5] (fun i wr => ∃ i' : Nat, i' ≤ k ∧ i = .int .i64 i' ∧ Aside (∀ a b, b < a → a < i' → ¬ ClashAt xs a b) ∧ Aside (Below w2.heap.size w2 wr)) (fun i _ => k - (RowKit.intOf i).toNat)
      case atStart => exact ⟨0, Nat.zero_le _, rfl, (fun a b _ h => absurd h (Nat.not_lt_zero _)), Below.refl _ _⟩
      case round =>
        obtain ⟨i, hi, rfl, HNC, HBi⟩ := hrel
        obtain ⟨w3, hw3⟩ : ∃ w3, wr = w3 := ⟨_, rfl⟩
        rw [hw3] at HBi ⊢
        clear hw3 wr
        by_cases hlt : i < k
        · obtain ⟨x, hx⟩ : ∃ x, xs[i]? = some x := ⟨_, List.getElem?_eq_getElem (by rw [HN.out]; exact hlt)⟩
          obtain ⟨bk, o, rfl, hbk, hcl⟩ : ∃ bk o, p = some ⟨bk, o, none⟩ ∧ bk < w.heap.size ∧ ∀ (j : Nat) x, xs[j]? = some x → w.cell? ⟨bk, o + j, none⟩ = some (.string x) := by
            rcases HC.out with h | ⟨bk, o, h1, h2, h3⟩
            · rw [h] at hx; cases hx
            · exact ⟨bk, o, h1, h2, h3⟩
          have hop := HO2.out.opened (by rw [List.length_map, HN.out]; omega)
          obtain ⟨g, cg, hvg, hg0, hg1, hgc, -⟩ := hop
          rw [List.length_map, HN.out] at hvg
          cases hvg
          have HGC := Lib.hid hgc
          have HCL := Lib.hid hcl
          have HX := Lib.hid hx
          have g1 : (0 : Int) ≤ i := by omega
          have g2 : (i : Int) < k := by omega
          clear hgc hcl hx
          go_wp2_with fail
          go_loopw [6] (fun j wr => ∃ k' : Nat, k' ≤ i ∧ j = .int .i64 k' ∧ Aside (∀ b, b < k' → ¬ ClashAt xs i b) ∧ Aside (Below w2.heap.size w2 wr)) (fun j _ => i - (RowKit.intOf j).toNat)
          case atStart => exact ⟨0, Nat.zero_le _, rfl, (fun b h => absurd h (Nat.not_lt_zero _)), HBi.out⟩
          case round =>
            clear HBi
            obtain ⟨m, hm, rfl, HNM, HBm⟩ := hrel
            by_cases hlm : m < i
            · obtain ⟨y, hy⟩ : ∃ y, xs[m]? = some y := ⟨_, List.getElem?_eq_getElem (by rw [HN.out]; omega)⟩
              have hx := HX.out
              have g3 : (0 : Int) ≤ m := by omega
              have g4 : (m : Int) < i := by omega
              have g5 : (m : Int) < k := by omega
              have hS : ∀ W', Below w2.heap.size w2 W' → W'.cell? ⟨bk, o + i, none⟩ = some (.string x) ∧ W'.cell? ⟨bk, o + m, none⟩ = some (.string y) ∧ W'.cell? ⟨g, i, none⟩ = some (.string (kecB x)) ∧ W'.cell? ⟨g, m, none⟩ = some (.string (kecB y)) := fun W' hb =>
                have hb' : Below w.heap.size w W' := HB.out.trans (hb.mono HB.out.size)
                ⟨(hb'.cell (p := ⟨bk, o + i, none⟩) hbk).trans (HCL.out i x hx), (hb'.cell (p := ⟨bk, o + m, none⟩) hbk).trans (HCL.out m y hy),
                  (hb.cell (p := ⟨g, i, none⟩) hg1).trans (HGC.out i _ (by rw [List.getElem?_map, hx]; rfl)), (hb.cell (p := ⟨g, m, none⟩) hg1).trans (HGC.out m _ (by rw [List.getElem?_map, hy]; rfl))⟩
              obtain ⟨sx, hsx⟩ : ∃ sx, kecB x = sx := ⟨_, rfl⟩
              obtain ⟨sy, hsy⟩ : ∃ sy, kecB y = sy := ⟨_, rfl⟩
              rw [hsx, hsy] at hS
              have hat : ¬ (x ≠ y ∧ sx = sy) → ¬ ClashAt xs i m := by
                rintro h ⟨s, t, h1, h2, h3, h4⟩
                rw [hx] at h1; rw [hy] at h2
                cases h1; cases h2
                exact h ⟨h3, by rw [← hsx, ← hsy]; exact h4⟩
              have HSW := Lib.hid hS
              have HAT := Lib.hid hat
              clear hS hat hsx hsy hx hy
              by_cases hxy : x = y
              · subst hxy
                go_wp2_with fail
                refine wp_region_held_drew (S := (fun W => W.cell? ⟨bk, o + i, none⟩ = some (.string x) ∧ W.cell? ⟨bk, o + m, none⟩ = some (.string x) ∧ W.cell? ⟨g, i, none⟩ = some (.string sx) ∧ W.cell? ⟨g, m, none⟩ = some (.string sy))) (by kernel_rfl) (HSW.out _ HBm.out.drew) (fun hHeld => ?_)
                refine wpAnyH_take (i := 0) (v := ?_) rfl (by kernel_rfl) (by kernel_rfl) (by kernel_rfl) (fun _ _ _ h => h) (.inl ⟨by rfl, ?_⟩) (by assumption) ?_
                rotate_left 1
                · intro w0 hSw
                  go_simp <;> with_reducible rfl
                try simp only [Act.put, List.getElem_toArray, List.getElem_cons_zero, List.setIfInBounds_toArray, List.set_cons_zero, List.set_cons_succ]
                refine wpAnyH_take (i := 1) (v := ?_) rfl (by kernel_rfl) (by kernel_rfl) (by kernel_rfl) (fun _ _ _ h => h) (.inl ⟨by rfl, ?_⟩) (by assumption) ?_
                rotate_left 1
                · intro w0 hSw
                  go_simp <;> with_reducible rfl
                try simp only [Act.put, List.getElem_toArray, List.getElem_cons_zero, List.getElem_cons_succ, List.setIfInBounds_toArray, List.set_cons_zero, List.set_cons_succ]
                refine wpAnyH_take (i := 2) (v := ?_) rfl (by kernel_rfl) (by kernel_rfl) (by kernel_rfl) (fun _ _ _ h => h) (.inl ⟨by rfl, ?_⟩) (by assumption) ?_
                rotate_left 1
                · intro w0 hSw
                  go_simp <;> with_reducible rfl
                try simp only [Act.put, List.getElem_toArray, List.getElem_cons_zero, List.getElem_cons_succ, List.setIfInBounds_toArray, List.set_cons_zero, List.set_cons_succ]
                refine wpAnyH_take (i := 3) (v := ?_) rfl (by kernel_rfl) (by kernel_rfl) (by kernel_rfl) (fun _ _ _ h => h) (.inl ⟨by rfl, ?_⟩) (by assumption) ?_
                rotate_left 1
                · intro w0 hSw
                  obtain ⟨z0, z1, z2, z3⟩ := hSw
                  go_simp <;> with_reducible rfl
                try simp only [Act.put, List.getElem_toArray, List.getElem_cons_zero, List.getElem_cons_succ, List.setIfInBounds_toArray, List.set_cons_zero, List.set_cons_succ]
                refine wpAnyH_take (i := 4) (v := ?_) rfl (by kernel_rfl) (by kernel_rfl) (by kernel_rfl) (fun _ _ _ h => h) (.inl ⟨by rfl, ?_⟩) (by assumption) ?_
                rotate_left 1
                · intro w0 hSw
                  go_simp <;> with_reducible rfl
                try simp only [Act.put, List.getElem_toArray, List.getElem_cons_zero, List.getElem_cons_succ, List.setIfInBounds_toArray, List.set_cons_zero, List.set_cons_succ]
                refine wpAnyH_take (i := 5) (v := ?_) rfl (by kernel_rfl) (by kernel_rfl) (by kernel_rfl) (fun _ _ _ h => h) (.inl ⟨by rfl, ?_⟩) (by assumption) ?_
                rotate_left 1
                · intro w0 hSw
                  go_simp <;> with_reducible rfl
                try simp only [Act.put, List.getElem_toArray, List.getElem_cons_zero, List.getElem_cons_succ, List.setIfInBounds_toArray, List.set_cons_zero, List.set_cons_succ]
                refine wpAnyH_take (i := 6) (v := ?_) rfl (by kernel_rfl) (by kernel_rfl) (by kernel_rfl) (fun _ _ _ h => h) (.inl ⟨by rfl, ?_⟩) (by assumption) ?_
                rotate_left 1
                · intro w0 hSw
                  go_simp <;> with_reducible rfl
                try simp only [Act.put, List.getElem_toArray, List.getElem_cons_zero, List.getElem_cons_succ, List.setIfInBounds_toArray, List.set_cons_zero, List.set_cons_succ]
                refine wpAnyH_take (i := 7) (v := ?_) rfl (by kernel_rfl) (by kernel_rfl) (by kernel_rfl) (fun _ _ _ h => h) (.inl ⟨by rfl, ?_⟩) (by assumption) ?_
                rotate_left 1
                · intro w0 hSw
                  obtain ⟨z0, z1, z2, z3⟩ := hSw
                  go_simp <;> with_reducible rfl
                try simp only [Act.put, List.getElem_toArray, List.getElem_cons_zero, List.getElem_cons_succ, List.setIfInBounds_toArray, List.set_cons_zero, List.set_cons_succ]
                refine wpAnyH_take (i := 8) (v := ?_) rfl (by kernel_rfl) (by kernel_rfl) (by kernel_rfl) (fun _ _ _ h => h) (.inl ⟨by rfl, ?_⟩) (by assumption) ?_
                rotate_left 1
                · intro w0 hSw
                  go_simp <;> with_reducible rfl
                try simp only [Act.put, List.getElem_toArray, List.getElem_cons_zero, List.getElem_cons_succ, List.setIfInBounds_toArray, List.set_cons_zero, List.set_cons_succ]
                refine wpAnyH_take (i := 9) (v := ?_) rfl (by kernel_rfl) (by kernel_rfl) (by kernel_rfl) (fun _ _ _ h => h) (.inl ⟨by rfl, ?_⟩) (by assumption) ?_
                rotate_left 1
                · intro w0 hSw
                  go_simp <;> with_reducible rfl
                try simp only [Act.put, List.getElem_toArray, List.getElem_cons_zero, List.getElem_cons_succ, List.setIfInBounds_toArray, List.set_cons_zero, List.set_cons_succ]
                refine wpAnyH_take (i := 10) (v := undef) rfl (by kernel_rfl) (by kernel_rfl) (by kernel_rfl) (fun _ _ _ h => h) (.inr ⟨by rfl, rfl⟩) (by assumption) ?_
                try simp only [Act.put, List.getElem_toArray, List.getElem_cons_zero, List.getElem_cons_succ, List.setIfInBounds_toArray, List.set_cons_zero, List.set_cons_succ]
                refine wpAnyH_take (i := 11) (v := undef) rfl (by kernel_rfl) (by kernel_rfl) (by kernel_rfl) (fun _ _ _ h => h) (.inr ⟨by rfl, rfl⟩) (by assumption) ?_
                try simp only [Act.put, List.getElem_toArray, List.getElem_cons_zero, List.getElem_cons_succ, List.setIfInBounds_toArray, List.set_cons_zero, List.set_cons_succ]
                refine wpAnyH_take (i := 12) (v := undef) rfl (by kernel_rfl) (by kernel_rfl) (by kernel_rfl) (fun _ _ _ h => h) (.inr ⟨by rfl, rfl⟩) (by assumption) ?_
                try simp only [Act.put, List.getElem_toArray, List.getElem_cons_zero, List.getElem_cons_succ, List.setIfInBounds_toArray, List.set_cons_zero, List.set_cons_succ]
                refine wpAnyH_take (i := 13) (v := undef) rfl (by kernel_rfl) (by kernel_rfl) (by kernel_rfl) (fun _ _ _ h => h) (.inr ⟨by rfl, rfl⟩) (by assumption) ?_
                try simp only [Act.put, List.getElem_toArray, List.getElem_cons_zero, List.getElem_cons_succ, List.setIfInBounds_toArray, List.set_cons_zero, List.set_cons_succ]
                refine wpAnyH_take (i := 14) (v := undef) rfl (by kernel_rfl) (by kernel_rfl) (by kernel_rfl) (fun _ _ _ h => h) (.inr ⟨by rfl, rfl⟩) (by assumption) ?_
                try simp only [Act.put, List.getElem_toArray, List.getElem_cons_zero, List.getElem_cons_succ, List.setIfInBounds_toArray, List.set_cons_zero, List.set_cons_succ]
                refine wpAnyH_take (i := 15) (v := undef) rfl (by kernel_rfl) (by kernel_rfl) (by kernel_rfl) (fun _ _ _ h => h) (.inr ⟨by rfl, rfl⟩) (by assumption) ?_
                try simp only [Act.put, List.getElem_toArray, List.getElem_cons_zero, List.getElem_cons_succ, List.setIfInBounds_toArray, List.set_cons_zero, List.set_cons_succ]
                refine wpAnyH_take (i := 16) (v := undef) rfl (by kernel_rfl) (by kernel_rfl) (by kernel_rfl) (fun _ _ _ h => h) (.inr ⟨by rfl, rfl⟩) (by assumption) ?_
                try simp only [Act.put, List.getElem_toArray, List.getElem_cons_zero, List.getElem_cons_succ, List.setIfInBounds_toArray, List.set_cons_zero, List.set_cons_succ]
                refine wpAnyH_take (i := 17) (v := undef) rfl (by kernel_rfl) (by kernel_rfl) (by kernel_rfl) (fun _ _ _ h => h) (.inr ⟨by rfl, rfl⟩) (by assumption) ?_
                try simp only [Act.put, List.getElem_toArray, List.getElem_cons_zero, List.getElem_cons_succ, List.setIfInBounds_toArray, List.set_cons_zero, List.set_cons_succ]
                refine wpAnyH_take (i := 18) (v := undef) rfl (by kernel_rfl) (by kernel_rfl) (by kernel_rfl) (fun _ _ _ h => h) (.inr ⟨by rfl, rfl⟩) (by assumption) ?_
                try simp only [Act.put, List.getElem_toArray, List.getElem_cons_zero, List.getElem_cons_succ, List.setIfInBounds_toArray, List.set_cons_zero, List.set_cons_succ]
                refine wpAnyH_take (i := 19) (v := ?_) rfl (by kernel_rfl) (by kernel_rfl) (by kernel_rfl) (fun _ _ _ h => h) (.inl ⟨by rfl, ?_⟩) (by assumption) ?_
                rotate_left 1
                · intro w0 hSw
                  go_simp <;> with_reducible rfl
                try simp only [Act.put, List.getElem_toArray, List.getElem_cons_zero, List.getElem_cons_succ, List.setIfInBounds_toArray, List.set_cons_zero, List.set_cons_succ]
                refine wpAnyH_done (by kernel_rfl) ?_ 0
                go_wp2
                go_roundw
                case rel => exact ⟨m + 1, by omega, by go_num, (fun b hb => by rcases Nat.lt_succ_iff_lt_or_eq.1 hb with h | rfl; · exact HNM.out b h
                                                                               · exact HAT.out (fun h => h.1 rfl)), HBm.out.drew⟩
                case measure => simp [RowKit.intOf]; omega
              · have q1 := neq_texts hxy
                by_cases hss : sx = sy
                · subst hss
                  go_wp2_with fail
                  refine wp_region_held_drew (S := (fun W => W.cell? ⟨bk, o + i, none⟩ = some (.string x) ∧ W.cell? ⟨bk, o + m, none⟩ = some (.string y) ∧ W.cell? ⟨g, i, none⟩ = some (.string sx) ∧ W.cell? ⟨g, m, none⟩ = some (.string sx))) (by kernel_rfl) (HSW.out _ HBm.out.drew) (fun hHeld => ?_)
                  refine wpAnyH_take (i := 0) (v := ?_) rfl (by kernel_rfl) (by kernel_rfl) (by kernel_rfl) (fun _ _ _ h => h) (.inl ⟨by rfl, ?_⟩) (by assumption) ?_
                  rotate_left 1
                  · intro w0 hSw
                    go_simp <;> with_reducible rfl
                  try simp only [Act.put, List.getElem_toArray, List.getElem_cons_zero, List.setIfInBounds_toArray, List.set_cons_zero, List.set_cons_succ]
                  refine wpAnyH_take (i := 1) (v := ?_) rfl (by kernel_rfl) (by kernel_rfl) (by kernel_rfl) (fun _ _ _ h => h) (.inl ⟨by rfl, ?_⟩) (by assumption) ?_
                  rotate_left 1
                  · intro w0 hSw
                    go_simp <;> with_reducible rfl
                  try simp only [Act.put, List.getElem_toArray, List.getElem_cons_zero, List.getElem_cons_succ, List.setIfInBounds_toArray, List.set_cons_zero, List.set_cons_succ]
                  refine wpAnyH_take (i := 2) (v := ?_) rfl (by kernel_rfl) (by kernel_rfl) (by kernel_rfl) (fun _ _ _ h => h) (.inl ⟨by rfl, ?_⟩) (by assumption) ?_
                  rotate_left 1
                  · intro w0 hSw
                    go_simp <;> with_reducible rfl
                  try simp only [Act.put, List.getElem_toArray, List.getElem_cons_zero, List.getElem_cons_succ, List.setIfInBounds_toArray, List.set_cons_zero, List.set_cons_succ]
                  refine wpAnyH_take (i := 3) (v := ?_) rfl (by kernel_rfl) (by kernel_rfl) (by kernel_rfl) (fun _ _ _ h => h) (.inl ⟨by rfl, ?_⟩) (by assumption) ?_
                  rotate_left 1
                  · intro w0 hSw
                    obtain ⟨z0, z1, z2, z3⟩ := hSw
                    go_simp <;> with_reducible rfl
                  try simp only [Act.put, List.getElem_toArray, List.getElem_cons_zero, List.getElem_cons_succ, List.setIfInBounds_toArray, List.set_cons_zero, List.set_cons_succ]
                  refine wpAnyH_take (i := 4) (v := ?_) rfl (by kernel_rfl) (by kernel_rfl) (by kernel_rfl) (fun _ _ _ h => h) (.inl ⟨by rfl, ?_⟩) (by assumption) ?_
                  rotate_left 1
                  · intro w0 hSw
                    go_simp <;> with_reducible rfl
                  try simp only [Act.put, List.getElem_toArray, List.getElem_cons_zero, List.getElem_cons_succ, List.setIfInBounds_toArray, List.set_cons_zero, List.set_cons_succ]
                  refine wpAnyH_take (i := 5) (v := ?_) rfl (by kernel_rfl) (by kernel_rfl) (by kernel_rfl) (fun _ _ _ h => h) (.inl ⟨by rfl, ?_⟩) (by assumption) ?_
                  rotate_left 1
                  · intro w0 hSw
                    go_simp <;> with_reducible rfl
                  try simp only [Act.put, List.getElem_toArray, List.getElem_cons_zero, List.getElem_cons_succ, List.setIfInBounds_toArray, List.set_cons_zero, List.set_cons_succ]
                  refine wpAnyH_take (i := 6) (v := ?_) rfl (by kernel_rfl) (by kernel_rfl) (by kernel_rfl) (fun _ _ _ h => h) (.inl ⟨by rfl, ?_⟩) (by assumption) ?_
                  rotate_left 1
                  · intro w0 hSw
                    go_simp <;> with_reducible rfl
                  try simp only [Act.put, List.getElem_toArray, List.getElem_cons_zero, List.getElem_cons_succ, List.setIfInBounds_toArray, List.set_cons_zero, List.set_cons_succ]
                  refine wpAnyH_take (i := 7) (v := ?_) rfl (by kernel_rfl) (by kernel_rfl) (by kernel_rfl) (fun _ _ _ h => h) (.inl ⟨by rfl, ?_⟩) (by assumption) ?_
                  rotate_left 1
                  · intro w0 hSw
                    obtain ⟨z0, z1, z2, z3⟩ := hSw
                    go_simp <;> with_reducible rfl
                  try simp only [Act.put, List.getElem_toArray, List.getElem_cons_zero, List.getElem_cons_succ, List.setIfInBounds_toArray, List.set_cons_zero, List.set_cons_succ]
                  refine wpAnyH_take (i := 8) (v := ?_) rfl (by kernel_rfl) (by kernel_rfl) (by kernel_rfl) (fun _ _ _ h => h) (.inl ⟨by rfl, ?_⟩) (by assumption) ?_
                  rotate_left 1
                  · intro w0 hSw
                    go_simp <;> with_reducible rfl
                  try simp only [Act.put, List.getElem_toArray, List.getElem_cons_zero, List.getElem_cons_succ, List.setIfInBounds_toArray, List.set_cons_zero, List.set_cons_succ]
                  refine wpAnyH_take (i := 9) (v := ?_) rfl (by kernel_rfl) (by kernel_rfl) (by kernel_rfl) (fun _ _ _ h => h) (.inl ⟨by rfl, ?_⟩) (by assumption) ?_
                  rotate_left 1
                  · intro w0 hSw
                    go_simp <;> with_reducible rfl
                  try simp only [Act.put, List.getElem_toArray, List.getElem_cons_zero, List.getElem_cons_succ, List.setIfInBounds_toArray, List.set_cons_zero, List.set_cons_succ]
                  refine wpAnyH_take (i := 10) (v := ?_) rfl (by kernel_rfl) (by kernel_rfl) (by kernel_rfl) (fun _ _ _ h => h) (.inl ⟨by rfl, ?_⟩) (by assumption) ?_
                  rotate_left 1
                  · intro w0 hSw
                    go_simp <;> with_reducible rfl
                  try simp only [Act.put, List.getElem_toArray, List.getElem_cons_zero, List.getElem_cons_succ, List.setIfInBounds_toArray, List.set_cons_zero, List.set_cons_succ]
                  refine wpAnyH_take (i := 11) (v := ?_) rfl (by kernel_rfl) (by kernel_rfl) (by kernel_rfl) (fun _ _ _ h => h) (.inl ⟨by rfl, ?_⟩) (by assumption) ?_
                  rotate_left 1
                  · intro w0 hSw
                    go_simp <;> with_reducible rfl
                  try simp only [Act.put, List.getElem_toArray, List.getElem_cons_zero, List.getElem_cons_succ, List.setIfInBounds_toArray, List.set_cons_zero, List.set_cons_succ]
                  refine wpAnyH_take (i := 12) (v := ?_) rfl (by kernel_rfl) (by kernel_rfl) (by kernel_rfl) (fun _ _ _ h => h) (.inl ⟨by rfl, ?_⟩) (by assumption) ?_
                  rotate_left 1
                  · intro w0 hSw
                    go_simp <;> with_reducible rfl
                  try simp only [Act.put, List.getElem_toArray, List.getElem_cons_zero, List.getElem_cons_succ, List.setIfInBounds_toArray, List.set_cons_zero, List.set_cons_succ]
                  refine wpAnyH_take (i := 13) (v := ?_) rfl (by kernel_rfl) (by kernel_rfl) (by kernel_rfl) (fun _ _ _ h => h) (.inl ⟨by rfl, ?_⟩) (by assumption) ?_
                  rotate_left 1
                  · intro w0 hSw
                    obtain ⟨z0, z1, z2, z3⟩ := hSw
                    go_simp <;> with_reducible rfl
                  try simp only [Act.put, List.getElem_toArray, List.getElem_cons_zero, List.getElem_cons_succ, List.setIfInBounds_toArray, List.set_cons_zero, List.set_cons_succ]
                  refine wpAnyH_take (i := 14) (v := ?_) rfl (by kernel_rfl) (by kernel_rfl) (by kernel_rfl) (fun _ _ _ h => h) (.inl ⟨by rfl, ?_⟩) (by assumption) ?_
                  rotate_left 1
                  · intro w0 hSw
                    go_simp <;> with_reducible rfl
                  try simp only [Act.put, List.getElem_toArray, List.getElem_cons_zero, List.getElem_cons_succ, List.setIfInBounds_toArray, List.set_cons_zero, List.set_cons_succ]
                  refine wpAnyH_take (i := 15) (v := ?_) rfl (by kernel_rfl) (by kernel_rfl) (by kernel_rfl) (fun _ _ _ h => h) (.inl ⟨by rfl, ?_⟩) (by assumption) ?_
                  rotate_left 1
                  · intro w0 hSw
                    go_simp <;> with_reducible rfl
                  try simp only [Act.put, List.getElem_toArray, List.getElem_cons_zero, List.getElem_cons_succ, List.setIfInBounds_toArray, List.set_cons_zero, List.set_cons_succ]
                  refine wpAnyH_take (i := 16) (v := ?_) rfl (by kernel_rfl) (by kernel_rfl) (by kernel_rfl) (fun _ _ _ h => h) (.inl ⟨by rfl, ?_⟩) (by assumption) ?_
                  rotate_left 1
                  · intro w0 hSw
                    go_simp <;> with_reducible rfl
                  try simp only [Act.put, List.getElem_toArray, List.getElem_cons_zero, List.getElem_cons_succ, List.setIfInBounds_toArray, List.set_cons_zero, List.set_cons_succ]
                  refine wpAnyH_take (i := 17) (v := ?_) rfl (by kernel_rfl) (by kernel_rfl) (by kernel_rfl) (fun _ _ _ h => h) (.inl ⟨by rfl, ?_⟩) (by assumption) ?_
                  rotate_left 1
                  · intro w0 hSw
                    obtain ⟨z0, z1, z2, z3⟩ := hSw
                    go_simp <;> with_reducible rfl
                  try simp only [Act.put, List.getElem_toArray, List.getElem_cons_zero, List.getElem_cons_succ, List.setIfInBounds_toArray, List.set_cons_zero, List.set_cons_succ]
                  refine wpAnyH_take (i := 18) (v := ?_) rfl (by kernel_rfl) (by kernel_rfl) (by kernel_rfl) (fun _ _ _ h => h) (.inl ⟨by rfl, ?_⟩) (by assumption) ?_
                  rotate_left 1
                  · intro w0 hSw
                    go_simp <;> with_reducible rfl
                  try simp only [Act.put, List.getElem_toArray, List.getElem_cons_zero, List.getElem_cons_succ, List.setIfInBounds_toArray, List.set_cons_zero, List.set_cons_succ]
                  refine wpAnyH_take (i := 19) (v := ?_) rfl (by kernel_rfl) (by kernel_rfl) (by kernel_rfl) (fun _ _ _ h => h) (.inl ⟨by rfl, ?_⟩) (by assumption) ?_
                  rotate_left 1
                  · intro w0 hSw
                    go_simp <;> with_reducible rfl
                  try simp only [Act.put, List.getElem_toArray, List.getElem_cons_zero, List.getElem_cons_succ, List.setIfInBounds_toArray, List.set_cons_zero, List.set_cons_succ]
                  refine wpAnyH_done (by kernel_rfl) ?_ 0
                  go_wp2
                  go_ret
                  exact ⟨⟨true, rfl, fun _ => rfl⟩, HB.out.trans (HBm.out.drew.mono HB.out.size)⟩
                · have q2 := neq_texts hss
                  go_wp2_with fail
                  refine wp_region_held_drew (S := (fun W => W.cell? ⟨bk, o + i, none⟩ = some (.string x) ∧ W.cell? ⟨bk, o + m, none⟩ = some (.string y) ∧ W.cell? ⟨g, i, none⟩ = some (.string sx) ∧ W.cell? ⟨g, m, none⟩ = some (.string sy))) (by kernel_rfl) (HSW.out _ HBm.out.drew) (fun hHeld => ?_)
                  refine wpAnyH_take (i := 0) (v := ?_) rfl (by kernel_rfl) (by kernel_rfl) (by kernel_rfl) (fun _ _ _ h => h) (.inl ⟨by rfl, ?_⟩) (by assumption) ?_
                  rotate_left 1
                  · intro w0 hSw
                    go_simp <;> with_reducible rfl
                  try simp only [Act.put, List.getElem_toArray, List.getElem_cons_zero, List.setIfInBounds_toArray, List.set_cons_zero, List.set_cons_succ]
                  refine wpAnyH_take (i := 1) (v := ?_) rfl (by kernel_rfl) (by kernel_rfl) (by kernel_rfl) (fun _ _ _ h => h) (.inl ⟨by rfl, ?_⟩) (by assumption) ?_
                  rotate_left 1
                  · intro w0 hSw
                    go_simp <;> with_reducible rfl
                  try simp only [Act.put, List.getElem_toArray, List.getElem_cons_zero, List.getElem_cons_succ, List.setIfInBounds_toArray, List.set_cons_zero, List.set_cons_succ]
                  refine wpAnyH_take (i := 2) (v := ?_) rfl (by kernel_rfl) (by kernel_rfl) (by kernel_rfl) (fun _ _ _ h => h) (.inl ⟨by rfl, ?_⟩) (by assumption) ?_
                  rotate_left 1
                  · intro w0 hSw
                    go_simp <;> with_reducible rfl
                  try simp only [Act.put, List.getElem_toArray, List.getElem_cons_zero, List.getElem_cons_succ, List.setIfInBounds_toArray, List.set_cons_zero, List.set_cons_succ]
                  refine wpAnyH_take (i := 3) (v := ?_) rfl (by kernel_rfl) (by kernel_rfl) (by kernel_rfl) (fun _ _ _ h => h) (.inl ⟨by rfl, ?_⟩) (by assumption) ?_
                  rotate_left 1
                  · intro w0 hSw
                    obtain ⟨z0, z1, z2, z3⟩ := hSw
                    go_simp <;> with_reducible rfl
                  try simp only [Act.put, List.getElem_toArray, List.getElem_cons_zero, List.getElem_cons_succ, List.setIfInBounds_toArray, List.set_cons_zero, List.set_cons_succ]
                  refine wpAnyH_take (i := 4) (v := ?_) rfl (by kernel_rfl) (by kernel_rfl) (by kernel_rfl) (fun _ _ _ h => h) (.inl ⟨by rfl, ?_⟩) (by assumption) ?_
                  rotate_left 1
                  · intro w0 hSw
                    go_simp <;> with_reducible rfl
                  try simp only [Act.put, List.getElem_toArray, List.getElem_cons_zero, List.getElem_cons_succ, List.setIfInBounds_toArray, List.set_cons_zero, List.set_cons_succ]
                  refine wpAnyH_take (i := 5) (v := ?_) rfl (by kernel_rfl) (by kernel_rfl) (by kernel_rfl) (fun _ _ _ h => h) (.inl ⟨by rfl, ?_⟩) (by assumption) ?_
                  rotate_left 1
                  · intro w0 hSw
                    go_simp <;> with_reducible rfl
                  try simp only [Act.put, List.getElem_toArray, List.getElem_cons_zero, List.getElem_cons_succ, List.setIfInBounds_toArray, List.set_cons_zero, List.set_cons_succ]
                  refine wpAnyH_take (i := 6) (v := ?_) rfl (by kernel_rfl) (by kernel_rfl) (by kernel_rfl) (fun _ _ _ h => h) (.inl ⟨by rfl, ?_⟩) (by assumption) ?_
                  rotate_left 1
                  · intro w0 hSw
                    go_simp <;> with_reducible rfl
                  try simp only [Act.put, List.getElem_toArray, List.getElem_cons_zero, List.getElem_cons_succ, List.setIfInBounds_toArray, List.set_cons_zero, List.set_cons_succ]
                  refine wpAnyH_take (i := 7) (v := ?_) rfl (by kernel_rfl) (by kernel_rfl) (by kernel_rfl) (fun _ _ _ h => h) (.inl ⟨by rfl, ?_⟩) (by assumption) ?_
                  rotate_left 1
                  · intro w0 hSw
                    obtain ⟨z0, z1, z2, z3⟩ := hSw
                    go_simp <;> with_reducible rfl
                  try simp only [Act.put, List.getElem_toArray, List.getElem_cons_zero, List.getElem_cons_succ, List.setIfInBounds_toArray, List.set_cons_zero, List.set_cons_succ]
                  refine wpAnyH_take (i := 8) (v := ?_) rfl (by kernel_rfl) (by kernel_rfl) (by kernel_rfl) (fun _ _ _ h => h) (.inl ⟨by rfl, ?_⟩) (by assumption) ?_
                  rotate_left 1
                  · intro w0 hSw
                    go_simp <;> with_reducible rfl
                  try simp only [Act.put, List.getElem_toArray, List.getElem_cons_zero, List.getElem_cons_succ, List.setIfInBounds_toArray, List.set_cons_zero, List.set_cons_succ]
                  refine wpAnyH_take (i := 9) (v := ?_) rfl (by kernel_rfl) (by kernel_rfl) (by kernel_rfl) (fun _ _ _ h => h) (.inl ⟨by rfl, ?_⟩) (by assumption) ?_
                  rotate_left 1
                  · intro w0 hSw
                    go_simp <;> with_reducible rfl
                  try simp only [Act.put, List.getElem_toArray, List.getElem_cons_zero, List.getElem_cons_succ, List.setIfInBounds_toArray, List.set_cons_zero, List.set_cons_succ]
                  refine wpAnyH_take (i := 10) (v := ?_) rfl (by kernel_rfl) (by kernel_rfl) (by kernel_rfl) (fun _ _ _ h => h) (.inl ⟨by rfl, ?_⟩) (by assumption) ?_
                  rotate_left 1
                  · intro w0 hSw
                    go_simp <;> with_reducible rfl
                  try simp only [Act.put, List.getElem_toArray, List.getElem_cons_zero, List.getElem_cons_succ, List.setIfInBounds_toArray, List.set_cons_zero, List.set_cons_succ]
                  refine wpAnyH_take (i := 11) (v := ?_) rfl (by kernel_rfl) (by kernel_rfl) (by kernel_rfl) (fun _ _ _ h => h) (.inl ⟨by rfl, ?_⟩) (by assumption) ?_
                  rotate_left 1
                  · intro w0 hSw
                    go_simp <;> with_reducible rfl
                  try simp only [Act.put, List.getElem_toArray, List.getElem_cons_zero, List.getElem_cons_succ, List.setIfInBounds_toArray, List.set_cons_zero, List.set_cons_succ]
                  refine wpAnyH_take (i := 12) (v := ?_) rfl (by kernel_rfl) (by kernel_rfl) (by kernel_rfl) (fun _ _ _ h => h) (.inl ⟨by rfl, ?_⟩) (by assumption) ?_
                  rotate_left 1
                  · intro w0 hSw
                    go_simp <;> with_reducible rfl
                  try simp only [Act.put, List.getElem_toArray, List.getElem_cons_zero, List.getElem_cons_succ, List.setIfInBounds_toArray, List.set_cons_zero, List.set_cons_succ]
                  refine wpAnyH_take (i := 13) (v := ?_) rfl (by kernel_rfl) (by kernel_rfl) (by kernel_rfl) (fun _ _ _ h => h) (.inl ⟨by rfl, ?_⟩) (by assumption) ?_
                  rotate_left 1
                  · intro w0 hSw
                    obtain ⟨z0, z1, z2, z3⟩ := hSw
                    go_simp <;> with_reducible rfl
                  try simp only [Act.put, List.getElem_toArray, List.getElem_cons_zero, List.getElem_cons_succ, List.setIfInBounds_toArray, List.set_cons_zero, List.set_cons_succ]
                  refine wpAnyH_take (i := 14) (v := ?_) rfl (by kernel_rfl) (by kernel_rfl) (by kernel_rfl) (fun _ _ _ h => h) (.inl ⟨by rfl, ?_⟩) (by assumption) ?_
                  rotate_left 1
                  · intro w0 hSw
                    go_simp <;> with_reducible rfl
                  try simp only [Act.put, List.getElem_toArray, List.getElem_cons_zero, List.getElem_cons_succ, List.setIfInBounds_toArray, List.set_cons_zero, List.set_cons_succ]
                  refine wpAnyH_take (i := 15) (v := ?_) rfl (by kernel_rfl) (by kernel_rfl) (by kernel_rfl) (fun _ _ _ h => h) (.inl ⟨by rfl, ?_⟩) (by assumption) ?_
                  rotate_left 1
                  · intro w0 hSw
                    go_simp <;> with_reducible rfl
                  try simp only [Act.put, List.getElem_toArray, List.getElem_cons_zero, List.getElem_cons_succ, List.setIfInBounds_toArray, List.set_cons_zero, List.set_cons_succ]
                  refine wpAnyH_take (i := 16) (v := ?_) rfl (by kernel_rfl) (by kernel_rfl) (by kernel_rfl) (fun _ _ _ h => h) (.inl ⟨by rfl, ?_⟩) (by assumption) ?_
                  rotate_left 1
                  · intro w0 hSw
                    go_simp <;> with_reducible rfl
                  try simp only [Act.put, List.getElem_toArray, List.getElem_cons_zero, List.getElem_cons_succ, List.setIfInBounds_toArray, List.set_cons_zero, List.set_cons_succ]
                  refine wpAnyH_take (i := 17) (v := ?_) rfl (by kernel_rfl) (by kernel_rfl) (by kernel_rfl) (fun _ _ _ h => h) (.inl ⟨by rfl, ?_⟩) (by assumption) ?_
                  rotate_left 1
                  · intro w0 hSw
                    obtain ⟨z0, z1, z2, z3⟩ := hSw
                    go_simp <;> with_reducible rfl
                  try simp only [Act.put, List.getElem_toArray, List.getElem_cons_zero, List.getElem_cons_succ, List.setIfInBounds_toArray, List.set_cons_zero, List.set_cons_succ]
                  refine wpAnyH_take (i := 18) (v := ?_) rfl (by kernel_rfl) (by kernel_rfl) (by kernel_rfl) (fun _ _ _ h => h) (.inl ⟨by rfl, ?_⟩) (by assumption) ?_
                  rotate_left 1
                  · intro w0 hSw
                    go_simp <;> with_reducible rfl
                  try simp only [Act.put, List.getElem_toArray, List.getElem_cons_zero, List.getElem_cons_succ, List.setIfInBounds_toArray, List.set_cons_zero, List.set_cons_succ]
                  refine wpAnyH_take (i := 19) (v := ?_) rfl (by kernel_rfl) (by kernel_rfl) (by kernel_rfl) (fun _ _ _ h => h) (.inl ⟨by rfl, ?_⟩) (by assumption) ?_
                  rotate_left 1
                  · intro w0 hSw
                    go_simp <;> with_reducible rfl
                  try simp only [Act.put, List.getElem_toArray, List.getElem_cons_zero, List.getElem_cons_succ, List.setIfInBounds_toArray, List.set_cons_zero, List.set_cons_succ]
                  refine wpAnyH_done (by kernel_rfl) ?_ 0
                  go_wp2
                  go_roundw
                  case rel => exact ⟨m + 1, by omega, by go_num, (fun b hb => by rcases Nat.lt_succ_iff_lt_or_eq.1 hb with h | rfl; · exact HNM.out b h
                                                                                 · exact HAT.out (fun h => hss h.2)), HBm.out.drew⟩
                  case measure => simp [RowKit.intOf]; omega
            · obtain rfl : m = i := by omega
              go_wp2
              go_roundw
              case rel => exact ⟨m + 1, by omega, by go_num, (fun a b hba ha => by rcases Nat.lt_succ_iff_lt_or_eq.1 ha with h | rfl; · exact HNC.out a b hba h
                                                                                   · exact HNM.out b hba), HBm.out⟩
              case measure => simp [RowKit.intOf]; omega
        · obtain rfl : i = k := by omega
          go_wp2
          go_ret
          refine ⟨⟨false, rfl, fun h => ?_⟩, HB.out.trans (HBi.out.mono HB.out.size)⟩
          obtain ⟨a, b, s, t, h1, h2, h3, h4, h5⟩ := h.places
          exact absurd ⟨s, t, h2, h3, h4, h5⟩ (HNC.out a b h1 (by have := (List.getElem?_eq_some_iff.1 h2).1; rw [HN.out] at this; exact this))
end Go.Proofs.YthicdhnjincflaaDoor

/- proof.Check gives what checkP says, of any root, key and texts. -/
namespace Go.Proofs.YthicdhnjincflaaDoor
open Go.RowKit Go.Shelf Go.Lib
attribute [local go_sem] Oper.semAt_some

theorem bt_ne {a b : List UInt8} (h : a ≠ b) : (⟨a.toArray⟩ : ByteArray) ≠ ⟨b.toArray⟩ := fun e => h (by have := congrArg (fun x : ByteArray => x.data.toList) e; simpa using this)
set_option maxRecDepth 100000 in
set_option maxHeartbeats 6400000 in
/-- no text, and another root -/
theorem check_lone_any (root key : List UInt8) (p : Option Addr) (c : Nat) (w : World) (hK : KecT w) (hg : (sizesP root [] && keyOk key) = true) (hr : keccakL [128] ≠ root) :
    Calls Tryd.prog 14 #[.string ⟨root.toArray⟩, .string ⟨key.toArray⟩, .slice p 0 c] w fun e w' => e = .returned (checkV ([], 70)) ∧ Below w.heap.size w w' := by
  rw [Bool.and_eq_true] at hg
  obtain ⟨h1, h2⟩ := hg
  have hf := fits_any root [] (.slice p 0 c) w ⟨p, c, rfl, Nat.zero_le _, .inl rfl⟩ (by decide)
  rw [h1] at hf
  have HF := Lib.hid hf
  have HKT := Lib.hid hK
  obtain ⟨kk, hkk⟩ : ∃ k, keccakL [128] = k := ⟨_, rfl⟩
  rw [hkk] at hr
  have q1 : (root == kk) = false := by rw [beq_eq_false_iff_ne]; exact fun e => hr e.symm
  cases key with
  | nil => simp [keyOk] at h2
  | cons a r =>
    have h64 : r.length + 1 ≤ 64 := by
      unfold keyOk at h2
      simp at h2
      omega
    have hks : (⟨(a :: r).toArray⟩ : ByteArray).size = r.length + 1 := rfl
    have j1 : ¬ (64 : Int) < (r.length : Int) + 1 := by omega
    have j1d : decide ((64 : Int) < (r.length : Int) + 1) = false := decide_eq_false j1
    have hb := (laid1 w (.cells #[.string ⟨#[128]⟩] 9))
    have HS := Lib.hid (kecOne_l hkk w.heap.size 0 _ (by simp) (by decide) (HKT.out.belowP hb))
    have HB := Lib.hid hb
    have HOF : Hid (∀ W, Calls Tryd.prog 38 #[.string ⟨(a :: r).toArray⟩] W fun e w' => e = .returned (.string ⟨(halves (a :: r)).toArray⟩) ∧ Below W.heap.size W w') := Lib.hid fun W => by
      have hof := of_any ⟨(a :: r).toArray⟩ W (by rw [hks]; omega)
      rwa [show (⟨(a :: r).toArray⟩ : ByteArray).data.toList = a :: r from rfl] at hof
    obtain ⟨path, hpath⟩ : ∃ q, halves (a :: r) = q := ⟨_, rfl⟩
    rw [hpath] at HOF
    clear h64 h1 h2 hf hK hr hb hpath hkk
    go_enter Tryd.func14, Tryd.ntmps14
    go_wp2_with fail
    refine wp_scope_straight ?_
    go_wp2_with fail
    refine HF.out.mono ?_
    rintro e w1 ⟨rfl, rfl⟩
    go_wp2_with fail
    refine HS.out.mono ?_
    rintro e w2 ⟨rfl, hb2⟩
    have HB2 := Lib.hid (HB.out.trans (hb2.mono HB.out.size))
    clear hb2
    go_wp2_with fail
    refine (HOF.out _).mono ?_
    rintro e w3 ⟨rfl, hb3⟩
    have HB3 := Lib.hid (HB2.out.trans (hb3.mono HB2.out.size))
    clear hb3
    go_wp2_with fail
    refine (rlpText_any root _).mono ?_
    rintro e w4 ⟨rfl, hb4⟩
    have HN4 := Lib.hid (((HasCells.new w3 [.string ⟨path.toArray⟩, .slice p 0 c, .string ⟨#[]⟩] 55).after hb4).alloc (.cells #[.bool false, .string ⟨root.toArray⟩, .slice none 0 0] 58))
    have HZ4 := Lib.hid (HasCells.new w4 [.bool false, .string ⟨root.toArray⟩, .slice none 0 0] 58)
    have hb5 := (HB3.out.alloc HB3.out.size (.cells #[.string ⟨path.toArray⟩, .slice p 0 c, .string ⟨#[]⟩] 55))
    have hb6 := hb5.trans (hb4.mono hb5.size)
    have HB4 := Lib.hid (hb6.alloc hb6.size (.cells #[.bool false, .string ⟨root.toArray⟩, .slice none 0 0] 58))
    clear hb4 hb5 hb6
    go_wp2_with fail
    refine wp_label ?_
    go_wp2_with fail
    go_loopg [] 0 (fun gg wr => gg = 0 ∧ Aside (HasCells wr w3.heap.size [.string ⟨path.toArray⟩, .slice p 0 c, .string ⟨#[]⟩] 55) ∧ Aside (HasCells wr w4.heap.size [.bool false, .string ⟨root.toArray⟩, .slice none 0 0] 58) ∧ Aside (Below w1.heap.size w1 wr))
    case atStart => exact ⟨rfl, HN4.out, HZ4.out, HB4.out⟩
    case round =>
      obtain ⟨hgg, hw, hz, HB5⟩ := hrel
      have z0 := hz.out.cell (j := 0) rfl
      have z1' := hz.out.cell (j := 1) rfl
      have z2 := hz.out.cell (j := 2) rfl
      have HND := Lib.hid (walkNode_nil w1.heap.size w3.heap.size w4.heap.size (txtI root) none 0 0 ⟨path.toArray⟩ ⟨#[]⟩ p c wr HB5.out.size rfl hw.out)
      rw [nodeOf_nil rfl] at HND
      clear hw hz HN4 HZ4 HB4
      go_wp2_with fail
      refine HND.out.mono ?_
      rintro e w5 ⟨hup, b3, s3, p3, n3, c3, rfl⟩
      have HB6 := Lib.hid (HB5.out.trans hup.1)
      clear hup z0 z1' z2
      go_wp2_with fail
      simp only [Exit.noGoto]
      change bodyPost _ _ _ Exit.ret _ _
      go_ret3
      exact ⟨rfl, HB6.out.alloc HB6.out.size _⟩
/-- Check, of any texts -/
theorem check_any (root key : List UInt8) (xs : List (List UInt8)) (v : Value) (w : World) (hv : Strs w v (xs.map bt)) (hN : xs.length ≤ 1099511627776) (hK : KecT w) :
    Calls Tryd.prog 14 #[.string ⟨root.toArray⟩, .string ⟨key.toArray⟩, v] w fun e w' => e = .returned (checkV (checkP keccakL root key xs)) ∧ Below w.heap.size w w' := by
  cases hb : (sizesP root xs && keyOk key) with
  | false =>
    rw [check_bad hb]
    exact check_bad_any root key xs v w hv hN hb
  | true =>
    cases xs with
    | nil =>
      obtain ⟨p, c, rfl, _⟩ := hv
      rw [check_none hb]
      by_cases hr : root = keccakL [128]
      · rw [if_pos hr]
        exact check_nought_any root key p c w hK hb hr.symm
      · rw [if_neg hr]
        exact check_lone_any root key p c w hK hb (fun e => hr e.symm)
    | cons s l => exact check_walk_any root key s l v w hv hN hK hb
end Go.Proofs.YthicdhnjincflaaDoor
