/- proof.Lead of a row of the call's own; the walk of ProofLeads. -/
import Derived.Test.YthicdhnjincflaaDoorPrfK
import Derived.Test.YthicdhnjincflaaDoorPonA
import Derived.Test.YthicdhnjincflaaDoorSmpA
import Derived.Shelf.Vars
namespace Go.Proofs.YthicdhnjincflaaDoor
open Go.RowKit Go.Shelf Go.Lib
attribute [local go_sem] Oper.semAt_some

theorem maxlen_shaped {W : World} (h : W.ShapedOpen Tryd.prog) : ∃ m, W.cell? ⟨3, 0, none⟩ = some (.int .i64 m) := Go.Proofs.cell_of_shapedOpen_int (zero := #[.int .i64 0]) (t := 3) h (of_decide_eq_true (by kernel_rfl)) (by kernel_rfl) rfl (by kernel_rfl) (by kernel_rfl) Tryd.underlying3
set_option maxRecDepth 100000 in
set_option maxHeartbeats 3200000 in
theorem lead_none_any (root : List UInt8) (w : World) :
    Calls Tryd.prog 22 #[.string ⟨root.toArray⟩, .slice none 0 0] w (TextsR w (leadP keccakL root []).1 (leadP keccakL root []).2) := by
  have hb2 : Below w.heap.size w ((w.alloc (.cells #[.string ⟨root.toArray⟩] 9)).alloc (.cells #[.slice none 0 0] 23)) := ((Below.refl _ _).alloc (Nat.le_refl _) _).alloc (by simp) _
  have hf := fits_any root [] (.slice none 0 0) _ (Strs.below (w := w) ⟨none, 0, rfl, Nat.le_refl _, .inl rfl⟩ hb2) (by decide)
  unfold leadP
  obtain ⟨sz, hsz⟩ : ∃ b, sizesP root [] = b := ⟨_, rfl⟩
  rw [hsz] at hf ⊢
  have HF := Lib.hid hf
  have HB := Lib.hid hb2
  cases sz with
  | false =>
    rw [if_neg (by simp)]
    clear hf hb2 hsz
    go_enter Tryd.func22, Tryd.ntmps22
    go_wp2_with fail
    refine HF.out.mono ?_
    rintro e w1 ⟨rfl, rfl⟩
    go_wp2_with fail
    go_ret2
    exact ⟨_, _, rfl, OwnS.nil _ _, HB.out⟩
  | true =>
    rw [if_pos rfl]
    clear hf hb2 hsz
    go_enter Tryd.func22, Tryd.ntmps22
    go_wp2_with fail
    refine HF.out.mono ?_
    rintro e w1 ⟨rfl, rfl⟩
    go_wp2_with fail
    have hgp := (HasCells.new (w.alloc (.cells #[.string ⟨root.toArray⟩] 9)) [.slice none 0 0] 23).alloc (.cells #[.int .i64 0] 3)
    have hgn := HasCells.new ((w.alloc (.cells #[.string ⟨root.toArray⟩] 9)).alloc (.cells #[.slice none 0 0] 23)) [.int .i64 0] 3
    simp only [World.size_alloc] at hgn hgp
    have HGN := Lib.hid hgn
    have HGP := Lib.hid hgp
    have HB3 := Lib.hid (HB.out.alloc HB.out.size (.cells #[.int .i64 0] 3))
    clear hgn hgp
    go_loopg [] 0 (fun gg wr => Aside (HasCells wr (w.heap.size + 1) [.slice none 0 0] 23) ∧ Aside (HasCells wr (w.heap.size + 1 + 1) [.int .i64 0] 3) ∧ Aside (Below w.heap.size w wr))
    case atStart => exact ⟨HGP.out, HGN.out, HB3.out⟩
    case round =>
      clear HGP HGN HB3
      obtain ⟨hgp, hgn, HBR⟩ := hrel
      have c1 := hgp.out.cell (j := 0) rfl
      have c2 := hgn.out.cell (j := 0) rfl
      have s2 := hgn.out.lt
      have s1 : w.heap.size + 1 < wr.heap.size := by omega
      have HNP := Lib.hid (OwnS.lit wr w.heap.size [] HBR.out.size (by decide))
      clear hgp hgn
      go_wp2_with (at_builtin; refine wpList_appendO rfl _ _ 23 rfl w.heap.size Tryd.underlying23 _ [] rfl HNP.out 0 (.slice none 0 0) [] rfl (OwnS.nil _ _) ?c0 ?c1 ?_)
      case c0 => decide
      case c1 => have := HBR.out.size; simp; omega
      intro v9 w9 ho9 hg9
      have hb9 : Below w.heap.size w w9 := (HBR.out.alloc HBR.out.size _).grown hg9 (by have := HBR.out.size; simp; omega) (fun r e => (HNP.out.lt r e).1)
      change OwnS w.heap.size w9 v9 [] at ho9
      obtain ⟨p9, c9, rfl⟩ := ho9.form
      have HO9 := Lib.hid ho9
      have HB9 := Lib.hid hb9
      clear ho9 hb9 hg9 HNP HBR
      go_wp2_with fail
      go_ret2
      exact ⟨_, _, rfl, HO9.out, HB9.out⟩
theorem lead_any (root : List UInt8) (xs : List (List UInt8)) (v : Value) (w : World) (hv : OwnS 0 w v (xs.map bt)) (hN : xs.length ≤ 1099511627775) (hK : KecT w) (hM : ∃ m, w.cell? ⟨3, 0, none⟩ = some (.int .i64 m)) :
    Calls Tryd.prog 22 #[.string ⟨root.toArray⟩, v] w (TextsR w (leadP keccakL root xs).1 (leadP keccakL root xs).2) := by
  rcases hv.forms with ⟨rfl, h⟩ | ⟨g, c, rfl⟩
  · have hx : xs = [] := by cases xs with
      | nil => rfl
      | cons a r => cases h
    subst hx
    exact lead_none_any root w
  · rw [List.length_map] at hv ⊢
    exact lead_some_any root xs g c w hv hN hK hM
set_option maxRecDepth 100000 in
set_option maxHeartbeats 6400000 in
theorem leads_any (s0 s1 : ByteArray) (v2 : Value) (l2 : List ByteArray) (w : World) (_ : s0.size ≤ 1048576) (_ : s1.size ≤ 1048576) (hs2 : Strs w v2 l2) (g2 : weightS l2 ≤ 1048576) (hK : KecT w) (hM : ∃ m, w.cell? ⟨3, 0, none⟩ = some (.int .i64 m)) :
    Calls Tryd.prog 7 #[.string s0, .string s1, v2] w fun e w' => e = .returned (.bool true) ∧ Below w.heap.size w w' := by
  obtain ⟨root, rfl, -⟩ := bytes_list s0
  obtain ⟨key, rfl, -⟩ := bytes_list s1
  have hn2 := weightS_len l2
  obtain ⟨xs, rfl, hx⟩ := bytes_lists l2
  obtain ⟨A, hA⟩ : ∃ A, someT xs = A := ⟨_, rfl⟩
  have HS2 : Hid (∀ W, Below w.heap.size w W → Calls Tryd.prog 17 #[v2] W fun e w' => ∃ p c, e = .returned (.slice p A.length c) ∧ OwnS W.heap.size w' (.slice p A.length c) (A.map bt) ∧ Below W.heap.size W w') := Lib.hid fun W hb => by
    rw [← hA]
    exact some_any _ _ W (hs2.below hb) (by rw [hx]; omega)
  have hlA : A.length ≤ 40 := by rw [← hA]; exact someT_len _
  obtain ⟨xa, ea, hra⟩ : ∃ x e, checkP keccakL root key A = (x, e) := ⟨_, _, rfl⟩
  obtain ⟨L, el, hrl⟩ : ∃ x e, leadP keccakL root A = (x, e) := ⟨_, _, rfl⟩
  have HC1 : Hid (∀ v W, Strs W v (A.map bt) → KecT W → Calls Tryd.prog 14 #[.string ⟨root.toArray⟩, .string ⟨key.toArray⟩, v] W fun e w' => e = .returned (.tuple #[.string ⟨xa.toArray⟩, .bool (!xa.isEmpty), .int .i64 ea]) ∧ Below W.heap.size W w') := Lib.hid fun v W hv hk => by
    have h := check_any root key A v W hv (by omega) hk
    rw [hra] at h
    exact h
  have HC2 : Hid (∀ v W, OwnS 0 W v (A.map bt) → KecT W → (∃ m, W.cell? ⟨3, 0, none⟩ = some (.int .i64 m)) → Calls Tryd.prog 22 #[.string ⟨root.toArray⟩, v] W (TextsR W L el)) := Lib.hid fun v W hv hk hm => by
    have h := lead_any root A v W hv (by omega) hk hm
    rw [hrl] at h
    exact h
  have HLE : Hid (L.length ≤ A.length) := Lib.hid (by have := lead_len (K := keccakL) root A; rw [hrl] at this; exact this)
  have HEQ : Hid (ea = 0 → L = A ∧ el = 0) := Lib.hid fun he => by
    have h := check_lead (K := keccakL) (root := root) (key := key) (l := A) (v := xa) (by rw [hra, he])
    rw [hrl] at h
    exact ⟨congrArg Prod.fst h, congrArg Prod.snd h⟩
  obtain ⟨n, hn⟩ : ∃ n, A.length = n := ⟨_, rfl⟩
  have HKT := Lib.hid hK
  have HMT := Lib.hid hM
  have HLA := Lib.hid hlA
  have HN := Lib.hid hn
  have HSH := Lib.hid (shown07_any w hK)
  obtain ⟨p2, c2, rfl, hc2, _⟩ := id hs2
  obtain ⟨k2, hk2⟩ : ∃ k, (xs.map bt).length = k := ⟨_, rfl⟩
  rw [hk2] at HS2 ⊢
  rw [hn] at HS2 HLE
  clear hs2 g2 hK hM hx hn2 hA hlA hn hra hrl hc2 hk2
  go_enter Tryd.func7, Tryd.ntmps7
  go_wp2_with fail
  refine HSH.out.mono ?_
  rintro e w1 ⟨rfl, hb1⟩
  have HB1 := Lib.hid hb1
  clear hb1 HSH
  go_wp2_with fail
  refine (HS2.out _ HB1.out).mono ?_
  rintro e w2 ⟨p4, c4, rfl, ho2, hb2⟩
  have HB2 := Lib.hid (HB1.out.trans (hb2.mono HB1.out.size))
  have HO2 := Lib.hid (ho2.base HB1.out.size)
  clear hb2 ho2 HB1 HS2
  go_wp2_with fail
  refine (HC1.out _ _ HO2.out.strs (HKT.out.belowP HB2.out)).mono ?_
  rintro e w3 ⟨rfl, hb3⟩
  have HB3 := Lib.hid (HB2.out.trans (hb3.mono HB2.out.size))
  have HO3 := Lib.hid (HO2.out.after hb3)
  clear hb3 HB2 HO2 HC1
  go_wp2_with fail
  refine (HC2.out _ _ (HO3.out.base (Nat.zero_le _)) (HKT.out.belowP HB3.out) ?_).mono ?_
  · obtain ⟨mm, hmm⟩ := HMT.out
    exact ⟨mm, (World.cell?_of_block (HB3.out.block _ (World.block_lt_of_cell? _ _ hmm))).trans hmm⟩
  rintro e w4 ⟨p5, c5, rfl, ho4, hb4⟩
  have HB4 := Lib.hid (HB3.out.trans (hb4.mono HB3.out.size))
  have HO4 := Lib.hid (HO3.out.after hb4)
  have HP4 := Lib.hid ho4.strs
  clear hb4 ho4 HB3 HO3 HC2
  by_cases hea : ea = 0
  · subst hea
    obtain ⟨hL, rfl⟩ := HEQ.out rfl
    have HSM := Lib.hid (same6_any _ _ (A.map bt) w4 HO4.out.strs (by rw [hL] at HP4; exact HP4.out) (by rw [List.length_map]; have := HLA.out; omega))
    subst hL
    rw [HN.out] at HSM
    have hn := HN.out
    clear HEQ HP4 HO4 HLE HLA
    go_wp2_with fail
    refine HSM.out.mono ?_
    rintro e w5 ⟨rfl, hb5⟩
    have HB5 := Lib.hid (HB4.out.trans (hb5.mono HB4.out.size))
    clear hb5
    go_wp2_with fail
    go_ret
    exact ⟨rfl, HB5.out⟩
  · have q1 : (ea == 0) = false := by simpa using hea
    have q2 : (L.length : Int) ≤ (n : Int) := by have := HLE.out; omega
    clear HEQ
    go_wp2_with fail
    go_ret
    exact ⟨rfl, HB4.out⟩
end Go.Proofs.YthicdhnjincflaaDoor
