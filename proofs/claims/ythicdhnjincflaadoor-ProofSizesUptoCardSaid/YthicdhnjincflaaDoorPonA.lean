/- The walk of ProofOnly. -/
import Derived.Test.YthicdhnjincflaaDoorPshB
import Derived.Test.YthicdhnjincflaaDoorOpnT
import Derived.Lib.MinMax
namespace Go.Proofs.YthicdhnjincflaaDoor
open Go.RowKit Go.Shelf Go.Lib
attribute [local go_sem] Oper.semAt_some

theorem Strs.take {w : World} {p : Option Addr} {n c m : Nat} {xs : List ByteArray} (h : Strs w (.slice p n c) xs) (hm : m ≤ n) : Strs w (.slice p m c) (xs.take m) := by
  obtain ⟨p', c', hv, hc, h⟩ := h
  cases hv
  refine ⟨_, _, by rw [List.length_take, Nat.min_eq_left hm], by rw [List.length_take]; omega, ?_⟩
  rcases h with h | ⟨bk, o, h1, h2, h3⟩
  · left; rw [h, List.take_nil]
  · refine .inr ⟨bk, o, h1, h2, fun j x hx => ?_⟩
    rw [List.getElem?_take] at hx
    split at hx
    · exact h3 j x hx
    · cases hx
theorem bytes_list (s : ByteArray) : ∃ l : List UInt8, s = ⟨l.toArray⟩ ∧ l.length = s.size := ⟨s.data.toList, by apply ByteArray.ext; simp, rfl⟩
theorem bytes_lists (l : List ByteArray) : ∃ xs : List (List UInt8), l = xs.map bt ∧ xs.length = l.length := ⟨l.map fun s => s.data.toList, by
  rw [List.map_map]
  conv => lhs; rw [← List.map_id l]
  apply List.map_congr_left
  intro s _
  show s = bt s.data.toList
  apply ByteArray.ext
  show s.data = s.data.toList.toArray
  simp, by simp⟩
set_option maxRecDepth 100000 in
set_option maxHeartbeats 6400000 in
theorem only_any (s0 s1 : ByteArray) (v2 : Value) (l2 : List ByteArray) (v3 : Value) (l3 : List ByteArray) (w : World) (_ : s0.size ≤ 1048576) (_ : s1.size ≤ 1048576) (hs2 : Strs w v2 l2) (g2 : weightS l2 ≤ 1048576) (hs3 : Strs w v3 l3) (g3 : weightS l3 ≤ 1048576) (hK : KecT w) :
    Calls Tryd.prog 5 #[.string s0, .string s1, v2, v3] w fun e w' => e = .returned (.bool true) ∧ Below w.heap.size w w' := by
  obtain ⟨root, rfl, -⟩ := bytes_list s0
  obtain ⟨key, rfl, -⟩ := bytes_list s1
  have hn2 := weightS_len l2
  have hn3 := weightS_len l3
  obtain ⟨xs, rfl, hx⟩ := bytes_lists l2
  obtain ⟨ys, rfl, hy⟩ := bytes_lists l3
  obtain ⟨p2, c2, rfl, hc2, _⟩ := id hs2
  obtain ⟨p3, c3, rfl, hc3, _⟩ := id hs3
  obtain ⟨n, hn⟩ : ∃ n, (xs.map bt).length = n := ⟨_, rfl⟩
  obtain ⟨m, hm⟩ : ∃ m, (ys.map bt).length = m := ⟨_, rfl⟩
  rw [hn] at hs2 hc2 hn2 ⊢
  rw [hm] at hs3 hc3 hn3 ⊢
  obtain ⟨n', hn'⟩ : ∃ k, min n 20 = k := ⟨_, rfl⟩
  obtain ⟨m', hm'⟩ : ∃ k, min m 20 = k := ⟨_, rfl⟩
  have e1 : min (n : Int) 20 = (n' : Int) := by omega
  have e2 : min (m : Int) 20 = (m' : Int) := by omega
  have e3 : (0 : Int) ≤ (n' : Int) := by omega
  have e4 : (0 : Int) ≤ (m' : Int) := by omega
  have e5 : (n' : Int) ≤ (c2 : Int) := by omega
  have e6 : (m' : Int) ≤ (c3 : Int) := by omega
  have HT2 := Lib.hid (hs2.take (m := n') (by omega))
  have HT3 := Lib.hid (hs3.take (m := m') (by omega))
  rw [← List.map_take] at HT2 HT3
  obtain ⟨A, hA⟩ : ∃ A, someT (xs.take n') = A := ⟨_, rfl⟩
  obtain ⟨B, hB⟩ : ∃ B, someT (ys.take m') = B := ⟨_, rfl⟩
  have HS2 : Hid (∀ W, Below w.heap.size w W → Calls Tryd.prog 17 #[.slice p2 n' c2] W fun e w' => ∃ p c, e = .returned (.slice p A.length c) ∧ OwnS W.heap.size w' (.slice p A.length c) (A.map bt) ∧ Below W.heap.size W w') := Lib.hid fun W hb => by
    rw [← hA]
    exact some_any _ _ W (HT2.out.below hb) (by rw [List.length_take]; rw [hx] ; omega)
  have HS3 : Hid (∀ W, Below w.heap.size w W → Calls Tryd.prog 17 #[.slice p3 m' c3] W fun e w' => ∃ p c, e = .returned (.slice p B.length c) ∧ OwnS W.heap.size w' (.slice p B.length c) (B.map bt) ∧ Below W.heap.size W w') := Lib.hid fun W hb => by
    rw [← hB]
    exact some_any _ _ W (HT3.out.below hb) (by rw [List.length_take]; rw [hy]; omega)
  have hlA : A.length ≤ 40 := by rw [← hA]; exact someT_len _
  have hlB : B.length ≤ 40 := by rw [← hB]; exact someT_len _
  have hsA : ∀ s ∈ A, s.length ≤ 3000 := by rw [← hA]; exact someT_at
  have hsB : ∀ s ∈ B, s.length ≤ 3000 := by rw [← hB]; exact someT_at
  obtain ⟨xa, ea, hra⟩ : ∃ x e, checkP keccakL root key A = (x, e) := ⟨_, _, rfl⟩
  obtain ⟨xb, eb, hrb⟩ : ∃ x e, checkP keccakL root key B = (x, e) := ⟨_, _, rfl⟩
  have HC2 : Hid (∀ v W, Strs W v (A.map bt) → KecT W → Calls Tryd.prog 14 #[.string ⟨root.toArray⟩, .string ⟨key.toArray⟩, v] W fun e w' => e = .returned (.tuple #[.string ⟨xa.toArray⟩, .bool (!xa.isEmpty), .int .i64 ea]) ∧ Below W.heap.size W w') := Lib.hid fun v W hv hk => by
    have h := check_any root key A v W hv (by omega) hk
    rw [hra] at h
    exact h
  have HC3 : Hid (∀ v W, Strs W v (B.map bt) → KecT W → Calls Tryd.prog 14 #[.string ⟨root.toArray⟩, .string ⟨key.toArray⟩, v] W fun e w' => e = .returned (.tuple #[.string ⟨xb.toArray⟩, .bool (!xb.isEmpty), .int .i64 eb]) ∧ Below W.heap.size W w') := Lib.hid fun v W hv hk => by
    have h := check_any root key B v W hv (by omega) hk
    rw [hrb] at h
    exact h
  have HCL : Hid (ea = 0 → eb = 0 → xa ≠ xb → HasClashK ([⟨#[128]⟩] ++ A.map bt ++ B.map bt)) := Lib.hid fun h1 h2 h3 => by
    have h := only_clash (root := root) (key := key) (l := A) (m := B) (by rw [hra]; exact h1) (by rw [hrb]; exact h2) (by rw [hra, hrb]; exact h3)
    rw [show [(⟨#[128]⟩ : ByteArray)] ++ A.map bt ++ B.map bt = ((([128] :: A) ++ B).map bt) by rw [List.map_append]; rfl]
    exact h
  have HSZ : Hid (∀ x ∈ [(⟨#[128]⟩ : ByteArray)] ++ A.map bt ++ B.map bt, x.size ≤ 1099511627776) := Lib.hid fun x hx => by
    rw [List.mem_append, List.mem_append] at hx
    rcases hx with (hx | hx) | hx
    · rw [List.mem_singleton.1 hx]; decide
    · obtain ⟨s, hs, rfl⟩ := List.mem_map.1 hx
      have := hsA s hs
      show s.length ≤ _
      omega
    · obtain ⟨s, hs, rfl⟩ := List.mem_map.1 hx
      have := hsB s hs
      show s.length ≤ _
      omega
  have HKT := Lib.hid hK
  have HLA := Lib.hid hlA
  have HLB := Lib.hid hlB
  have HSH := Lib.hid (shown07_any w hK)
  clear hs2 hs3 g2 g3 hK hx hy hc2 hc3 hn2 hn3 hn hm hn' hm' HT2 HT3 hA hB hlA hlB hsA hsB hra hrb
  go_enter Tryd.func5, Tryd.ntmps5
  go_wp2_with fail
  refine HSH.out.mono ?_
  rintro e w1 ⟨rfl, hb1⟩
  have HB1 := Lib.hid hb1
  clear hb1 HSH
  go_wp2_with fail
  refine (HS2.out _ HB1.out).mono ?_
  rintro e w2 ⟨p4, c4, rfl, ho2, hb2⟩
  have HB2 := Lib.hid (HB1.out.trans (hb2.mono HB1.out.size))
  have HO2 := Lib.hid (ho2.base HB1.out.size)
  clear hb2 ho2 HB1 HS2
  go_wp2_with fail
  refine (HS3.out _ HB2.out).mono ?_
  rintro e w3 ⟨p5, c5, rfl, ho3, hb3⟩
  have HB3 := Lib.hid (HB2.out.trans (hb3.mono HB2.out.size))
  have HO3 := Lib.hid (HO2.out.after hb3)
  have HP3 := Lib.hid (ho3.base HB2.out.size)
  clear hb3 ho3 HB2 HS3 HO2
  go_wp2_with fail
  refine (HC2.out _ _ HO3.out.strs (HKT.out.belowP HB3.out)).mono ?_
  rintro e w4 ⟨rfl, hb4⟩
  have HB4 := Lib.hid (HB3.out.trans (hb4.mono HB3.out.size))
  have HO4 := Lib.hid (HO3.out.after hb4)
  have HP4 := Lib.hid (HP3.out.after hb4)
  clear hb4 HB3 HO3 HP3 HC2
  go_wp2_with fail
  refine (HC3.out _ _ HP4.out.strs (HKT.out.belowP HB4.out)).mono ?_
  rintro e w5 ⟨rfl, hb5⟩
  have HB5 := Lib.hid (HB4.out.trans (hb5.mono HB4.out.size))
  have HO5 := Lib.hid (HO4.out.after hb5)
  have HP5 := Lib.hid (HP4.out.after hb5)
  clear hb5 HB4 HO4 HP4 HC3
  by_cases hea : ea = 0
  · subst hea
    by_cases heb : eb = 0
    · subst heb
      by_cases hxx : xa = xb
      · subst hxx
        go_wp2_with fail
        go_ret
        exact ⟨rfl, HB5.out⟩
      · have q1 := neq_texts (bt_ne hxx)
        have HCL2 := Lib.hid (HCL.out rfl rfl hxx)
        clear HCL
        go_wp2_with (at_builtin; refine wpList_appendO rfl _ _ 23 rfl w.heap.size Tryd.underlying23 _ [⟨#[128]⟩] rfl (OwnS.lit w5 w.heap.size [⟨#[128]⟩] HB5.out.size (by decide)) w.heap.size _ (A.map bt) rfl (HO5.out.after (laid1 w5 _)) ?c0 ?c1 ?_)
        case c0 => rw [List.length_map]; have := HLA.out; simp; omega
        case c1 => have := HB5.out.size; simp; omega
        intro v6 w6 ho6 hg6
        have hb6 : Below w.heap.size w w6 := (HB5.out.alloc HB5.out.size _).grown hg6 (by have := HB5.out.size; simp; omega) (fun r e => by cases e; exact HB5.out.size)
        have hp6 : OwnS w.heap.size w6 (.slice p5 B.length c5) (B.map bt) := (HP5.out.after (laid1 w5 _)).kept hg6 (by
          rcases HP5.out.forms with ⟨h1, -⟩ | ⟨g, c, h1⟩
          · rw [h1]; exact .inl rfl
          · have h2 := (HP5.out.lt g (by rw [h1]; rfl)).2
            refine .inr fun h3 => ?_
            rw [h1] at h3
            have h4 : g = w5.heap.size := Option.some.inj h3
            omega)
        have HB6 := Lib.hid hb6
        obtain ⟨L6, hL6⟩ : ∃ L, [(⟨#[128]⟩ : ByteArray)] ++ A.map bt = L := ⟨_, rfl⟩
        have hn6 : L6.length = A.length + 1 := by rw [← hL6]; simp
        change OwnS w.heap.size w6 v6 ([(⟨#[128]⟩ : ByteArray)] ++ A.map bt) at ho6
        rw [hL6] at ho6 HCL2 HSZ
        obtain ⟨p6, c6, rfl⟩ := ho6.form
        rw [hn6] at ho6
        have HO6 := Lib.hid ho6
        have HN6 := Lib.hid hn6
        have HP6 := Lib.hid hp6
        rw [hn6]
        clear hb6 ho6 hp6 hg6 HB5 HO5 HP5 hL6 hn6
        go_wp2_with (at_builtin; refine wpList_appendO rfl _ _ 23 rfl w.heap.size Tryd.underlying23 _ _ rfl HO6.out w.heap.size _ (B.map bt) rfl HP6.out ?d0 ?d1 ?_)
        case d0 => rw [HN6.out, List.length_map]; have := HLA.out; have := HLB.out; omega
        case d1 => exact HB6.out.size
        intro v7 w7 ho7 hg7
        have hb7 : Below w.heap.size w w7 := HB6.out.grown hg7 HB6.out.size (fun r e => (HO6.out.lt r e).1)
        have HB7 := Lib.hid hb7
        have HS7 := Lib.hid ho7.strs
        have hln : (L6 ++ B.map bt).length ≤ 1048576 := by rw [List.length_append, HN6.out, List.length_map]; have := HLA.out; have := HLB.out; omega
        have HCC := Lib.hid (clash_any v7 _ w7 HS7.out hln HSZ.out)
        clear hb7 ho7 hg7 hln HO6 HP6 HB6
        go_wp2_with fail
        refine HCC.out.mono ?_
        rintro e w8 ⟨⟨b8, rfl, hb8⟩, hbl8⟩
        obtain rfl := hb8 HCL2.out
        have HB8 := Lib.hid (HB7.out.trans (hbl8.mono HB7.out.size))
        clear hbl8
        go_wp2_with fail
        go_ret
        exact ⟨rfl, HB8.out⟩
    · have q1 : (eb == 0) = false := by simpa using heb
      go_wp2_with fail
      go_ret
      exact ⟨rfl, HB5.out⟩
  · have q1 : (ea == 0) = false := by simpa using hea
    go_wp2_with fail
    go_ret
    exact ⟨rfl, HB5.out⟩
end Go.Proofs.YthicdhnjincflaaDoor
