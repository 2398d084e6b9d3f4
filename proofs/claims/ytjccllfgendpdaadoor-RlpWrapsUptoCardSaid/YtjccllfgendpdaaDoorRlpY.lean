/- The walk of the law RlpWraps: it returns true, and nothing that was there is changed. -/
import Derived.Test.YtjccllfgendpdaaDoorRlpX
import Derived.Test.YtjccllfgendpdaaDoorRlpB
namespace Go.Proofs.YtjccllfgendpdaaDoor
open Go.RowKit Go.Shelf Go.Lib

/-- what RlpWraps leans on: the errors n (x), f (y), g (a list of x), h (a list of both), and their bytes -/
def WrapFacts (n f g h : Int) (a b s t : List UInt8) : Prop :=
  (n ≠ 0 ∧ g ≠ 0) ∨ (n = 0 ∧ (g = 0 → a.length < s.length ∧ s.drop (s.length - a.length) = a) ∧ (f = 0 → h = 0 → a.length + b.length < t.length ∧ t.drop (t.length - a.length - b.length) = a ++ b))
theorem wrap_facts {x y : Item} {n f g h : Int} {a b s t : List UInt8} (hx : encode x = (a, n)) (hy : encode y = (b, f)) (hs : encode (.mk true [] [x]) = (s, g)) (ht : encode (.mk true [] [x, y]) = (t, h)) : WrapFacts n f g h a b s t := by
  by_cases hn : n = 0
  · subst hn
    refine .inr ⟨rfl, fun e => ?_, fun e1 e2 => ?_⟩
    · subst e
      obtain ⟨a', h1, h2⟩ := encode_wrap hs
      rw [hx] at h1
      cases h1
      exact h2
    · subst e1; subst e2
      exact encode_wrap2 hx hy ht
  · refine .inl ⟨hn, fun e => ?_⟩
    subst e
    obtain ⟨a', h1, h2⟩ := encode_wrap hs
    rw [hx] at h1
    cases h1
    exact hn rfl
theorem enc_len {x : Item} {l : List UInt8} {n : Int} (he : encode x = (l, n)) : l.length ≤ 65536 := by
  unfold encode at he
  repeat' split at he
  all_goals cases he
  all_goals first | omega | simp
theorem bool_eq {n : Int} (h : n ≠ 0) : (n == 0) = false := by simpa using h
theorem ext_from (s : List UInt8) (k : Nat) : (⟨s.toArray⟩ : ByteArray).extract k s.length = ⟨(s.drop k).toArray⟩ := by rw [ext_mk, List.take_length]
theorem wrap_size (x y : Item) (hx : x.weight ≤ 1048576) (hy : y.weight ≤ 1048576) : (Item.mk true [] [x]).size ≤ 1099511627776 ∧ (put (Item.mk true [] [x])).length ≤ 1099511627776 ∧ (Item.mk true [] [x, y]).size ≤ 1099511627776 ∧ (put (Item.mk true [] [x, y])).length ≤ 1099511627776 := by
  have h1 := size_weight (Item.mk true [] [x])
  have h2 := size_weight (Item.mk true [] [x, y])
  have h3 := put_weight (Item.mk true [] [x])
  have h4 := put_weight (Item.mk true [] [x, y])
  simp only [Item.weight, weightAll, List.length_nil] at h1 h2 h3 h4
  omega
theorem reads_list {w W : World} {xs : List (Item × Value)} {g c : Nat} (hg : g < W.heap.size) (hc : ∀ (i : Nat) (q : Item × Value), xs[i]? = some q → W.cell? ⟨g, i * 3, none⟩ = some (.bool q.1.isList) ∧ W.cell? ⟨g, i * 3 + 1, none⟩ = some (.string ⟨q.1.text.toArray⟩) ∧ W.cell? ⟨g, i * 3 + 2, none⟩ = some q.2 ∧ Reads W W.heap.size q.2 q.1.list) (_ : w = w) :
    Reads W W.heap.size (.slice (some ⟨g, 0, none⟩) (xs.map Prod.fst).length c) (xs.map Prod.fst) := by
  refine Reads.mk hg (fun i x hx => ?_)
  rw [List.getElem?_map] at hx
  cases hq : xs[i]? with
  | none => rw [hq] at hx; cases hx
  | some q =>
    rw [hq] at hx
    cases hx
    obtain ⟨h1, h2, h3, h4⟩ := hc i q hq
    rw [Nat.zero_add]
    exact ⟨h1, h2, _, h3, h4⟩

set_option maxRecDepth 100000 in
set_option maxHeartbeats 6400000 in
theorem law_wraps (x : Item) (u : Value) (y : Item) (v : Value) (w : World) (hr : Reads w w.heap.size u x.list) (hx : x.weight ≤ 1048576) (hr2 : Reads w w.heap.size v y.list) (hy : y.weight ≤ 1048576) :
    Calls Tryd.prog 13 #[.agg #[.bool x.isList, .string ⟨x.text.toArray⟩, u], .agg #[.bool y.isList, .string ⟨y.text.toArray⟩, v]] w fun e w' => e = .returned (.bool true) ∧ Below w.heap.size w w' := by
  obtain ⟨p, c, rfl⟩ := hr.form
  obtain ⟨p2, c2, rfl⟩ := hr2.form
  have hx1 : x.size ≤ 1099511627776 := by have := size_weight x; omega
  have hy1 : y.size ≤ 1099511627776 := by have := size_weight y; omega
  have hx2 : (put x).length ≤ 1099511627776 := by have := put_weight x; omega
  have hy2 : (put y).length ≤ 1099511627776 := by have := put_weight y; omega
  obtain ⟨z1, z2, z3, z4⟩ := wrap_size x y hx hy
  obtain ⟨a, n, ea⟩ : ∃ l n, encode x = (l, n) := ⟨_, _, rfl⟩
  obtain ⟨b, f, eb⟩ : ∃ l n, encode y = (l, n) := ⟨_, _, rfl⟩
  obtain ⟨s, g, es⟩ : ∃ l n, encode (.mk true [] [x]) = (l, n) := ⟨_, _, rfl⟩
  obtain ⟨t, h, et⟩ : ∃ l n, encode (.mk true [] [x, y]) = (l, n) := ⟨_, _, rfl⟩
  have HF := Lib.hid (wrap_facts ea eb es et)
  have la := enc_len ea
  have lb := enc_len eb
  have ls := enc_len es
  have lt := enc_len et
  have HR : Hid (∀ W, Below w.heap.size w W → Reads W W.heap.size (.slice p x.list.length c) x.list ∧ Reads W W.heap.size (.slice p2 y.list.length c2) y.list) := Lib.hid fun W hb => ⟨hr.below hb hb.size, hr2.below hb hb.size⟩
  have H0 := Lib.hid fun W (hb : Below w.heap.size w W) => few_any x y _ _ W hx1 hy1 (HR.out W hb).1 (HR.out W hb).2
  have H1 := Lib.hid fun W (hb : Below w.heap.size w W) => encode_lit ea _ W hx1 hx2 (HR.out W hb).1
  have H2 := Lib.hid fun W (hb : Below w.heap.size w W) => encode_lit eb _ W hy1 hy2 (HR.out W hb).2
  have H5 := Lib.hid fun v W (hr : Reads W W.heap.size v [x]) => encode_lit es v W z1 z2 hr
  have H6 := Lib.hid fun v W (hr : Reads W W.heap.size v [x, y]) => encode_lit et v W z3 z4 hr
  have h3 := fun W (hb : W.cell? ⟨w.heap.size, 0, none⟩ = some (.bool x.isList) ∧ W.cell? ⟨w.heap.size, 1, none⟩ = some (.string ⟨x.text.toArray⟩) ∧ W.cell? ⟨w.heap.size, 2, none⟩ = some (.slice p x.list.length c) ∧
      W.cell? ⟨w.heap.size + 1, 0, none⟩ = some (.bool y.isList) ∧ W.cell? ⟨w.heap.size + 1, 1, none⟩ = some (.string ⟨y.text.toArray⟩) ∧ W.cell? ⟨w.heap.size + 1, 2, none⟩ = some (.slice p2 y.list.length c2) ∧ Below w.heap.size w W) =>
    same_any 1099511627776 (by omega) x y _ _ W hx1 hy1 (HR.out W hb.2.2.2.2.2.2).1 (HR.out W hb.2.2.2.2.2.2).2
  have h4 := fun W (hb : W.cell? ⟨w.heap.size, 0, none⟩ = some (.bool x.isList) ∧ W.cell? ⟨w.heap.size, 1, none⟩ = some (.string ⟨x.text.toArray⟩) ∧ W.cell? ⟨w.heap.size, 2, none⟩ = some (.slice p x.list.length c) ∧
      W.cell? ⟨w.heap.size + 1, 0, none⟩ = some (.bool y.isList) ∧ W.cell? ⟨w.heap.size + 1, 1, none⟩ = some (.string ⟨y.text.toArray⟩) ∧ W.cell? ⟨w.heap.size + 1, 2, none⟩ = some (.slice p2 y.list.length c2) ∧ Below w.heap.size w W) =>
    same_any 1099511627776 (by omega) y x _ _ W hy1 hx1 (HR.out W hb.2.2.2.2.2.2).2 (HR.out W hb.2.2.2.2.2.2).1
  have h7 := fun W (hb : W.cell? ⟨w.heap.size, 0, none⟩ = some (.bool x.isList) ∧ W.cell? ⟨w.heap.size, 1, none⟩ = some (.string ⟨x.text.toArray⟩) ∧ W.cell? ⟨w.heap.size, 2, none⟩ = some (.slice p x.list.length c) ∧
      W.cell? ⟨w.heap.size + 1, 0, none⟩ = some (.bool y.isList) ∧ W.cell? ⟨w.heap.size + 1, 1, none⟩ = some (.string ⟨y.text.toArray⟩) ∧ W.cell? ⟨w.heap.size + 1, 2, none⟩ = some (.slice p2 y.list.length c2) ∧ Below w.heap.size w W) =>
    same_any 1099511627776 (by omega) x x _ _ W hx1 hx1 (HR.out W hb.2.2.2.2.2.2).1 (HR.out W hb.2.2.2.2.2.2).1
  rw [same_refl] at h7
  rw [same_comm y x] at h4
  obtain ⟨bb, hbb⟩ : ∃ b, same x y = b := ⟨_, rfl⟩
  rw [hbb] at h3 h4
  have H3 := Lib.hid h3
  have H4 := Lib.hid h4
  have H7 := Lib.hid h7
  have HT := Lib.hid (Two.start w x y (.slice p x.list.length c) (.slice p2 y.list.length c2))
  clear hr hr2 hx1 hy1 hx2 hy2 z1 z2 z3 z4 ea eb es et hbb h3 h4 h7 hx hy
  go_enter Tryd.func13, Tryd.ntmps13
  go_wp2_with fail
  refine (shown_any _).mono ?_
  rintro e w1 ⟨rfl, hb1⟩
  have h1 := HT.out.step hb1
  have HT1 := Lib.hid h1
  obtain ⟨hB, ⟨q0, q1, q2, -⟩, ⟨p0, p1, p2', -⟩⟩ := h1
  have Hc := Lib.hid (H0.out w1 hB)
  clear HT hb1 hB
  go_wp2_with fail
  refine Hc.out.mono ?_
  rintro e w2 ⟨rfl, hb2⟩
  have h1 := HT1.out.step hb2
  have HT2 := Lib.hid h1
  clear q0 q1 q2 p0 p1 p2' HT1 Hc hb2
  obtain ⟨hB, ⟨q0, q1, q2, -⟩, ⟨p0, p1, p2', -⟩⟩ := h1
  cases hf : fewB x y with
  | false =>
    go_wp2
    go_ret
    exact ⟨rfl, HT2.out.1⟩
  | true =>
    have Hc := Lib.hid (H1.out w2 hB)
    clear hB
    go_wp2_with fail
    refine Hc.out.mono ?_
    rintro e w3 ⟨rfl, hb3⟩
    have h1 := HT2.out.step hb3
    have HT3 := Lib.hid h1
    clear q0 q1 q2 p0 p1 p2' HT2 Hc hb3
    obtain ⟨hB, ⟨q0, q1, q2, -⟩, ⟨p0, p1, p2', -⟩⟩ := h1
    have Hc := Lib.hid (H2.out w3 hB)
    clear hB
    go_wp2_with fail
    refine Hc.out.mono ?_
    rintro e w4 ⟨rfl, hb4⟩
    have h1 := HT3.out.step hb4
    have HT4 := Lib.hid h1
    clear q0 q1 q2 p0 p1 p2' HT3 Hc hb4
    obtain ⟨hB, ⟨q0, q1, q2, -⟩, ⟨p0, p1, p2', -⟩⟩ := h1
    go_wp2_with fail
    refine (list_any _ _ _ _).mono ?_
    rintro e w5 ⟨rfl, hb5⟩
    have HT5 := Lib.hid ((HT4.out.step (laid1 w4 (.cells #[.bool x.isList, .string ⟨x.text.toArray⟩, .slice p x.list.length c] 36))).step hb5)
    have hq : Box3 w5 w4.heap.size (.bool x.isList) (.string ⟨x.text.toArray⟩) (.slice p x.list.length c) := (Box3.new w4 _ _ _ _).kept (hb5.block _ (by simp))
    have hr5 : Reads w5 w5.heap.size (.slice (some ⟨w4.heap.size, 0, none⟩) 1 1) [x] := by
      refine reads_list (w := w) (xs := [(x, .slice p x.list.length c)]) hq.lt (fun i q hi => ?_) rfl
      match i, hi with
      | 0, hi => cases hi; exact ⟨hq.1, hq.2.1, hq.2.2.1, (HR.out w5 HT5.out.1).1⟩
    have Hc := Lib.hid (H5.out _ w5 hr5)
    clear q0 q1 q2 p0 p1 p2' HT4 hb5 hr5 hq hB
    go_wp2_with fail
    refine Hc.out.mono ?_
    rintro e w6 ⟨rfl, hb6⟩
    have h1 := HT5.out.step hb6
    have HT6 := Lib.hid h1
    clear HT5 Hc hb6
    obtain ⟨hB, ⟨q0, q1, q2, -⟩, ⟨p0, p1, p2', -⟩⟩ := h1
    go_wp2_with fail
    refine (list_any _ _ _ _).mono ?_
    rintro e w7 ⟨rfl, hb7⟩
    have hbb : Below w6.heap.size w6 (w6.alloc (.cells #[.bool x.isList, .string ⟨x.text.toArray⟩, .slice p x.list.length c, .bool y.isList, .string ⟨y.text.toArray⟩, .slice p2 y.list.length c2] 36)) := laid1 w6 _
    have HT7 := Lib.hid ((HT6.out.step hbb).step hb7)
    have hcl := fun j u hu => (hb7.cell (p := ⟨w6.heap.size, j, none⟩) (by simp)).trans (cells_at w6 [.bool x.isList, .string ⟨x.text.toArray⟩, .slice p x.list.length c, .bool y.isList, .string ⟨y.text.toArray⟩, .slice p2 y.list.length c2] 36 j u hu)
    have hr7 : Reads w7 w7.heap.size (.slice (some ⟨w6.heap.size, 0, none⟩) 2 2) [x, y] := by
      refine reads_list (w := w) (xs := [(x, .slice p x.list.length c), (y, .slice p2 y.list.length c2)]) (World.block_lt_of_cell? _ _ (hcl 0 _ rfl)) (fun i q hi => ?_) rfl
      match i, hi with
      | 0, hi => cases hi; exact ⟨hcl 0 _ rfl, hcl 1 _ rfl, hcl 2 _ rfl, (HR.out w7 HT7.out.1).1⟩
      | 1, hi => cases hi; exact ⟨hcl 3 _ rfl, hcl 4 _ rfl, hcl 5 _ rfl, (HR.out w7 HT7.out.1).2⟩
    have Hc := Lib.hid (H6.out _ w7 hr7)
    clear q0 q1 q2 p0 p1 p2' HT6 hb7 hr7 hcl hB hbb
    go_wp2_with fail
    refine Hc.out.mono ?_
    rintro e w8 ⟨rfl, hb8⟩
    have h1 := HT7.out.step hb8
    clear HT7 Hc hb8
    obtain ⟨hB, ⟨q0, q1, q2, -⟩, ⟨p0, p1, p2', -⟩⟩ := h1
    have hS : w8.cell? ⟨w.heap.size, 0, none⟩ = some (.bool x.isList) ∧ w8.cell? ⟨w.heap.size, 1, none⟩ = some (.string ⟨x.text.toArray⟩) ∧ w8.cell? ⟨w.heap.size, 2, none⟩ = some (.slice p x.list.length c) ∧
      w8.cell? ⟨w.heap.size + 1, 0, none⟩ = some (.bool y.isList) ∧ w8.cell? ⟨w.heap.size + 1, 1, none⟩ = some (.string ⟨y.text.toArray⟩) ∧ w8.cell? ⟨w.heap.size + 1, 2, none⟩ = some (.slice p2 y.list.length c2) ∧ Below w.heap.size w w8 := ⟨q0, q1, q2, p0, p1, p2', hB⟩
    have HS := Lib.hid hS
    clear q0 q1 q2 p0 p1 p2' hB hS
    have a0 : (0 : Int) ≤ a.length := by omega
    have b0 : (0 : Int) ≤ b.length := by omega
    have a1 : (a.length : Int) ≤ 65536 := by omega
    have b1 : (b.length : Int) ≤ 65536 := by omega
    have s1 : (s.length : Int) ≤ 65536 := by omega
    have t1 : (t.length : Int) ≤ 65536 := by omega
    rcases HF.out with ⟨hn, hg⟩ | ⟨rfl, f1, f2⟩
    · have n1 := bool_ne hn
      have n2 := bool_eq hn
      have g1 := bool_ne hg
      clear HF
      go_wp2_with fail
      have hS := HS.out
      go_region_held3 (fun w' => w'.cell? ⟨w.heap.size, 0, none⟩ = some (.bool x.isList) ∧ w'.cell? ⟨w.heap.size, 1, none⟩ = some (.string ⟨x.text.toArray⟩) ∧ w'.cell? ⟨w.heap.size, 2, none⟩ = some (.slice p x.list.length c) ∧ w'.cell? ⟨w.heap.size + 1, 0, none⟩ = some (.bool y.isList) ∧ w'.cell? ⟨w.heap.size + 1, 1, none⟩ = some (.string ⟨y.text.toArray⟩) ∧ w'.cell? ⟨w.heap.size + 1, 2, none⟩ = some (.slice p2 y.list.length c2) ∧ Below w.heap.size w w')
        (first | exact hS | exact two_next (by assumption) hb' | exact two_next (by assumption) (Below.refl _ _).drew)
        (first | (go_at_call 34; (first | (with_reducible refine (H3.out _ ?_).mono ?_) | (with_reducible refine (H4.out _ ?_).mono ?_) | (with_reducible refine (H7.out _ ?_).mono ?_)); assumption; rintro e w' ⟨rfl, hb'⟩))
      rename_i hHeld
      have hR := hHeld.2.2.2.2.2.2
      clear hHeld hb' hS
      go_wp2
      go_ret
      exact ⟨ret_true (by simp), hR⟩
    · by_cases hg : g = 0
      · subst hg
        obtain ⟨k1, k2⟩ := f1 rfl
        have k3 : (a.length : Int) < s.length := by omega
        have k4 : (0 : Int) ≤ s.length - a.length := by omega
        have k5 : ((s.length : Int) - a.length).toNat = s.length - a.length := by omega
        have k6 := ext_from s (s.length - a.length)
        rw [k2] at k6
        clear k1 k2
        by_cases hf0 : f = 0
        · subst hf0
          by_cases hh : h = 0
          · subst hh
            obtain ⟨m1, m2⟩ := f2 rfl rfl
            have m3 : (a.length : Int) + b.length < t.length := by omega
            have m4 : (0 : Int) ≤ t.length - a.length - b.length := by omega
            have m5 : ((t.length : Int) - a.length - b.length).toNat = t.length - a.length - b.length := by omega
            have m6 := ext_from t (t.length - a.length - b.length)
            rw [m2] at m6
            have m7 := app_mk a b
            clear HF f1 f2 m1 m2
            go_wp2_with fail
            have hS := HS.out
            refine wp_region_held_drew (S := (fun w' => w'.cell? ⟨w.heap.size, 0, none⟩ = some (.bool x.isList) ∧ w'.cell? ⟨w.heap.size, 1, none⟩ = some (.string ⟨x.text.toArray⟩) ∧ w'.cell? ⟨w.heap.size, 2, none⟩ = some (.slice p x.list.length c) ∧ w'.cell? ⟨w.heap.size + 1, 0, none⟩ = some (.bool y.isList) ∧ w'.cell? ⟨w.heap.size + 1, 1, none⟩ = some (.string ⟨y.text.toArray⟩) ∧ w'.cell? ⟨w.heap.size + 1, 2, none⟩ = some (.slice p2 y.list.length c2) ∧ Below w.heap.size w w')) (by kernel_rfl) (two_next hS (Below.refl _ _).drew) (fun hHeld => ?_)
            refine wpAnyH_take (i := 0) (v := .bool true) rfl (by kernel_rfl) (by kernel_rfl) (by kernel_rfl) (fun _ _ _ h => h) (.inl ⟨by rfl, ?_⟩) (by assumption) ?_
            · intro w0 hSw
              obtain ⟨z0, z1, z2, z3, z4, z5, -⟩ := hSw
              go_simp
            simp only [Act.put, List.getElem_toArray, List.getElem_cons_zero, List.setIfInBounds_toArray, List.set_cons_zero, List.set_cons_succ]
            refine wpAnyH_take (i := 1) (v := .bool true) rfl (by kernel_rfl) (by kernel_rfl) (by kernel_rfl) (fun _ _ _ h => h) (.inl ⟨by rfl, ?_⟩) (by assumption) ?_
            · intro w0 hSw
              obtain ⟨z0, z1, z2, z3, z4, z5, -⟩ := hSw
              go_simp
            simp only [Act.put, List.getElem_toArray, List.getElem_cons_zero, List.getElem_cons_succ, List.setIfInBounds_toArray, List.set_cons_zero, List.set_cons_succ]
            refine wpAnyH_take (i := 2) (v := .int .i64 0) rfl (by kernel_rfl) (by kernel_rfl) (by kernel_rfl) (fun _ _ _ h => h) (.inl ⟨by rfl, ?_⟩) (by assumption) ?_
            · intro w0 hSw
              obtain ⟨z0, z1, z2, z3, z4, z5, -⟩ := hSw
              go_simp
            simp only [Act.put, List.getElem_toArray, List.getElem_cons_zero, List.getElem_cons_succ, List.setIfInBounds_toArray, List.set_cons_zero, List.set_cons_succ]
            refine wpAnyH_take (i := 3) (v := .bool true) rfl (by kernel_rfl) (by kernel_rfl) (by kernel_rfl) (fun _ _ _ h => h) (.inl ⟨by rfl, ?_⟩) (by assumption) ?_
            · intro w0 hSw
              obtain ⟨z0, z1, z2, z3, z4, z5, -⟩ := hSw
              go_simp
            simp only [Act.put, List.getElem_toArray, List.getElem_cons_zero, List.getElem_cons_succ, List.setIfInBounds_toArray, List.set_cons_zero, List.set_cons_succ]
            refine wpAnyH_take (i := 4) (v := .bool true) rfl (by kernel_rfl) (by kernel_rfl) (by kernel_rfl) (fun _ _ _ h => h) (.inl ⟨by rfl, ?_⟩) (by assumption) ?_
            · intro w0 hSw
              obtain ⟨z0, z1, z2, z3, z4, z5, -⟩ := hSw
              go_simp
            simp only [Act.put, List.getElem_toArray, List.getElem_cons_zero, List.getElem_cons_succ, List.setIfInBounds_toArray, List.set_cons_zero, List.set_cons_succ]
            refine wpAnyH_take (i := 5) (v := undef) rfl (by kernel_rfl) (by kernel_rfl) (by kernel_rfl) (fun _ _ _ h => h) (.inr ⟨by rfl, rfl⟩) (by assumption) ?_
            simp only [Act.put, List.getElem_toArray, List.getElem_cons_zero, List.getElem_cons_succ, List.setIfInBounds_toArray, List.set_cons_zero, List.set_cons_succ]
            refine wpAnyH_take (i := 6) (v := undef) rfl (by kernel_rfl) (by kernel_rfl) (by kernel_rfl) (fun _ _ _ h => h) (.inr ⟨by rfl, rfl⟩) (by assumption) ?_
            simp only [Act.put, List.getElem_toArray, List.getElem_cons_zero, List.getElem_cons_succ, List.setIfInBounds_toArray, List.set_cons_zero, List.set_cons_succ]
            refine wpAnyH_take (i := 7) (v := .bool true) rfl (by kernel_rfl) (by kernel_rfl) (by kernel_rfl) (fun _ _ _ h => h) (.inl ⟨by rfl, ?_⟩) (by assumption) ?_
            · intro w0 hSw
              obtain ⟨z0, z1, z2, z3, z4, z5, -⟩ := hSw
              go_simp
            simp only [Act.put, List.getElem_toArray, List.getElem_cons_zero, List.getElem_cons_succ, List.setIfInBounds_toArray, List.set_cons_zero, List.set_cons_succ]
            refine wpAnyH_take (i := 8) (v := .bool true) rfl (by kernel_rfl) (by kernel_rfl) (by kernel_rfl) (fun _ _ _ h => h) (.inl ⟨by rfl, ?_⟩) (by assumption) ?_
            · intro w0 hSw
              obtain ⟨z0, z1, z2, z3, z4, z5, -⟩ := hSw
              go_simp
            simp only [Act.put, List.getElem_toArray, List.getElem_cons_zero, List.getElem_cons_succ, List.setIfInBounds_toArray, List.set_cons_zero, List.set_cons_succ]
            refine wpAnyH_take (i := 9) (v := .bool true) rfl (by kernel_rfl) (by kernel_rfl) (by kernel_rfl) (fun _ _ _ h => h) (.inl ⟨by rfl, ?_⟩) (by assumption) ?_
            · intro w0 hSw
              obtain ⟨z0, z1, z2, z3, z4, z5, -⟩ := hSw
              go_simp
            simp only [Act.put, List.getElem_toArray, List.getElem_cons_zero, List.getElem_cons_succ, List.setIfInBounds_toArray, List.set_cons_zero, List.set_cons_succ]
            refine wpAnyH_take (i := 10) (v := .agg #[.bool x.isList, .string ⟨x.text.toArray⟩, .slice p x.list.length c]) rfl (by kernel_rfl) (by kernel_rfl) (by kernel_rfl) (fun _ _ _ h => h) (.inl ⟨by rfl, ?_⟩) (by assumption) ?_
            · intro w0 hSw
              obtain ⟨z0, z1, z2, z3, z4, z5, -⟩ := hSw
              go_simp
            simp only [Act.put, List.getElem_toArray, List.getElem_cons_zero, List.getElem_cons_succ, List.setIfInBounds_toArray, List.set_cons_zero, List.set_cons_succ]
            refine wpAnyH_take (i := 11) (v := .agg #[.bool x.isList, .string ⟨x.text.toArray⟩, .slice p x.list.length c]) rfl (by kernel_rfl) (by kernel_rfl) (by kernel_rfl) (fun _ _ _ h => h) (.inl ⟨by rfl, ?_⟩) (by assumption) ?_
            · intro w0 hSw
              obtain ⟨z0, z1, z2, z3, z4, z5, -⟩ := hSw
              go_simp
            simp only [Act.put, List.getElem_toArray, List.getElem_cons_zero, List.getElem_cons_succ, List.setIfInBounds_toArray, List.set_cons_zero, List.set_cons_succ]
            refine wpAnyH_ready (rs := [12]) (by kernel_rfl) (by simp) ?_
            refine AllReadyH.cons rfl (fun K hK => ?_) AllReadyH.nil
            go_simp
            (go_at_call 34; (first | (with_reducible refine (H3.out _ ?_).mono ?_) | (with_reducible refine (H4.out _ ?_).mono ?_) | (with_reducible refine (H7.out _ ?_).mono ?_)); assumption; rintro e w' ⟨rfl, hb'⟩)
            refine hK.out _ _ (two_next (by assumption) hb') (fun hHeld => ?_)
            clear hK K
            try simp only [Act.put, List.getElem_toArray, List.getElem_cons_zero, List.getElem_cons_succ, List.setIfInBounds_toArray, List.set_cons_zero, List.set_cons_succ]
            refine wpAnyH_take (i := 13) (v := .bool true) rfl (by kernel_rfl) (by kernel_rfl) (by kernel_rfl) (fun _ _ _ h => h) (.inl ⟨by rfl, ?_⟩) (by assumption) ?_
            · intro w0 hSw
              obtain ⟨z0, z1, z2, z3, z4, z5, -⟩ := hSw
              go_simp
            simp only [Act.put, List.getElem_toArray, List.getElem_cons_zero, List.getElem_cons_succ, List.setIfInBounds_toArray, List.set_cons_zero, List.set_cons_succ]
            refine wpAnyH_take (i := 14) (v := .bool true) rfl (by kernel_rfl) (by kernel_rfl) (by kernel_rfl) (fun _ _ _ h => h) (.inl ⟨by rfl, ?_⟩) (by assumption) ?_
            · intro w0 hSw
              obtain ⟨z0, z1, z2, z3, z4, z5, -⟩ := hSw
              go_simp
            simp only [Act.put, List.getElem_toArray, List.getElem_cons_zero, List.getElem_cons_succ, List.setIfInBounds_toArray, List.set_cons_zero, List.set_cons_succ]
            refine wpAnyH_take (i := 15) (v := .agg #[.bool x.isList, .string ⟨x.text.toArray⟩, .slice p x.list.length c]) rfl (by kernel_rfl) (by kernel_rfl) (by kernel_rfl) (fun _ _ _ h => h) (.inl ⟨by rfl, ?_⟩) (by assumption) ?_
            · intro w0 hSw
              obtain ⟨z0, z1, z2, z3, z4, z5, -⟩ := hSw
              go_simp
            simp only [Act.put, List.getElem_toArray, List.getElem_cons_zero, List.getElem_cons_succ, List.setIfInBounds_toArray, List.set_cons_zero, List.set_cons_succ]
            refine wpAnyH_take (i := 16) (v := .agg #[.bool y.isList, .string ⟨y.text.toArray⟩, .slice p2 y.list.length c2]) rfl (by kernel_rfl) (by kernel_rfl) (by kernel_rfl) (fun _ _ _ h => h) (.inl ⟨by rfl, ?_⟩) (by assumption) ?_
            · intro w0 hSw
              obtain ⟨z0, z1, z2, z3, z4, z5, -⟩ := hSw
              go_simp
            simp only [Act.put, List.getElem_toArray, List.getElem_cons_zero, List.getElem_cons_succ, List.setIfInBounds_toArray, List.set_cons_zero, List.set_cons_succ]
            refine wpAnyH_take (i := 18) (v := .agg #[.bool y.isList, .string ⟨y.text.toArray⟩, .slice p2 y.list.length c2]) rfl (by kernel_rfl) (by kernel_rfl) (by kernel_rfl) (fun _ _ _ h => h) (.inl ⟨by rfl, ?_⟩) (by assumption) ?_
            · intro w0 hSw
              obtain ⟨z0, z1, z2, z3, z4, z5, -⟩ := hSw
              go_simp
            simp only [Act.put, List.getElem_toArray, List.getElem_cons_zero, List.getElem_cons_succ, List.setIfInBounds_toArray, List.set_cons_zero, List.set_cons_succ]
            refine wpAnyH_take (i := 19) (v := .agg #[.bool x.isList, .string ⟨x.text.toArray⟩, .slice p x.list.length c]) rfl (by kernel_rfl) (by kernel_rfl) (by kernel_rfl) (fun _ _ _ h => h) (.inl ⟨by rfl, ?_⟩) (by assumption) ?_
            · intro w0 hSw
              obtain ⟨z0, z1, z2, z3, z4, z5, -⟩ := hSw
              go_simp
            simp only [Act.put, List.getElem_toArray, List.getElem_cons_zero, List.getElem_cons_succ, List.setIfInBounds_toArray, List.set_cons_zero, List.set_cons_succ]
            refine wpAnyH_ready (rs := [17]) (by kernel_rfl) (by simp) ?_
            refine AllReadyH.cons rfl (fun K hK => ?_) AllReadyH.nil
            go_simp
            (go_at_call 34; (first | (with_reducible refine (H3.out _ ?_).mono ?_) | (with_reducible refine (H4.out _ ?_).mono ?_) | (with_reducible refine (H7.out _ ?_).mono ?_)); assumption; rintro e w' ⟨rfl, hb'⟩)
            refine hK.out _ _ (two_next (by assumption) hb') (fun hHeld => ?_)
            clear hK K
            try simp only [Act.put, List.getElem_toArray, List.getElem_cons_zero, List.getElem_cons_succ, List.setIfInBounds_toArray, List.set_cons_zero, List.set_cons_succ]
            refine wpAnyH_ready (rs := [20]) (by kernel_rfl) (by simp) ?_
            refine AllReadyH.cons rfl (fun K hK => ?_) AllReadyH.nil
            go_simp
            (go_at_call 34; (first | (with_reducible refine (H3.out _ ?_).mono ?_) | (with_reducible refine (H4.out _ ?_).mono ?_) | (with_reducible refine (H7.out _ ?_).mono ?_)); assumption; rintro e w' ⟨rfl, hb'⟩)
            refine hK.out _ _ (two_next (by assumption) hb') (fun hHeld => ?_)
            clear hK K
            try simp only [Act.put, List.getElem_toArray, List.getElem_cons_zero, List.getElem_cons_succ, List.setIfInBounds_toArray, List.set_cons_zero, List.set_cons_succ]
            refine wpAnyH_take (i := 21) (v := .bool true) rfl (by kernel_rfl) (by kernel_rfl) (by kernel_rfl) (fun _ _ _ h => h) (.inl ⟨by rfl, ?_⟩) (by assumption) ?_
            · intro w0 hSw
              obtain ⟨z0, z1, z2, z3, z4, z5, -⟩ := hSw
              go_simp
            simp only [Act.put, List.getElem_toArray, List.getElem_cons_zero, List.getElem_cons_succ, List.setIfInBounds_toArray, List.set_cons_zero, List.set_cons_succ]
            refine wpAnyH_take (i := 22) (v := .bool true) rfl (by kernel_rfl) (by kernel_rfl) (by kernel_rfl) (fun _ _ _ h => h) (.inl ⟨by rfl, ?_⟩) (by assumption) ?_
            · intro w0 hSw
              obtain ⟨z0, z1, z2, z3, z4, z5, -⟩ := hSw
              go_simp
            simp only [Act.put, List.getElem_toArray, List.getElem_cons_zero, List.getElem_cons_succ, List.setIfInBounds_toArray, List.set_cons_zero, List.set_cons_succ]
            refine wpAnyH_take (i := 23) (v := .bool true) rfl (by kernel_rfl) (by kernel_rfl) (by kernel_rfl) (fun _ _ _ h => h) (.inl ⟨by rfl, ?_⟩) (by assumption) ?_
            · intro w0 hSw
              obtain ⟨z0, z1, z2, z3, z4, z5, -⟩ := hSw
              go_simp
            simp only [Act.put, List.getElem_toArray, List.getElem_cons_zero, List.getElem_cons_succ, List.setIfInBounds_toArray, List.set_cons_zero, List.set_cons_succ]
            refine wpAnyH_done (by kernel_rfl) ?_ 0
            rename_i hHeld
            have hR := hHeld.2.2.2.2.2.2
            go_wp2
            go_ret
            exact ⟨ret_true (by simp), hR⟩
          · have h1 := bool_eq hh
            clear HF f1 f2
            go_wp2_with fail
            have hS := HS.out
            refine wp_region_held_drew (S := (fun w' => w'.cell? ⟨w.heap.size, 0, none⟩ = some (.bool x.isList) ∧ w'.cell? ⟨w.heap.size, 1, none⟩ = some (.string ⟨x.text.toArray⟩) ∧ w'.cell? ⟨w.heap.size, 2, none⟩ = some (.slice p x.list.length c) ∧ w'.cell? ⟨w.heap.size + 1, 0, none⟩ = some (.bool y.isList) ∧ w'.cell? ⟨w.heap.size + 1, 1, none⟩ = some (.string ⟨y.text.toArray⟩) ∧ w'.cell? ⟨w.heap.size + 1, 2, none⟩ = some (.slice p2 y.list.length c2) ∧ Below w.heap.size w w')) (by kernel_rfl) (two_next hS (Below.refl _ _).drew) (fun hHeld => ?_)
            refine wpAnyH_take (i := 0) (v := .bool true) rfl (by kernel_rfl) (by kernel_rfl) (by kernel_rfl) (fun _ _ _ h => h) (.inl ⟨by rfl, ?_⟩) (by assumption) ?_
            · intro w0 hSw
              obtain ⟨z0, z1, z2, z3, z4, z5, -⟩ := hSw
              go_simp
            simp only [Act.put, List.getElem_toArray, List.getElem_cons_zero, List.setIfInBounds_toArray, List.set_cons_zero, List.set_cons_succ]
            refine wpAnyH_take (i := 1) (v := .bool true) rfl (by kernel_rfl) (by kernel_rfl) (by kernel_rfl) (fun _ _ _ h => h) (.inl ⟨by rfl, ?_⟩) (by assumption) ?_
            · intro w0 hSw
              obtain ⟨z0, z1, z2, z3, z4, z5, -⟩ := hSw
              go_simp
            simp only [Act.put, List.getElem_toArray, List.getElem_cons_zero, List.getElem_cons_succ, List.setIfInBounds_toArray, List.set_cons_zero, List.set_cons_succ]
            refine wpAnyH_take (i := 2) (v := .int .i64 0) rfl (by kernel_rfl) (by kernel_rfl) (by kernel_rfl) (fun _ _ _ h => h) (.inl ⟨by rfl, ?_⟩) (by assumption) ?_
            · intro w0 hSw
              obtain ⟨z0, z1, z2, z3, z4, z5, -⟩ := hSw
              go_simp
            simp only [Act.put, List.getElem_toArray, List.getElem_cons_zero, List.getElem_cons_succ, List.setIfInBounds_toArray, List.set_cons_zero, List.set_cons_succ]
            refine wpAnyH_take (i := 3) (v := .bool true) rfl (by kernel_rfl) (by kernel_rfl) (by kernel_rfl) (fun _ _ _ h => h) (.inl ⟨by rfl, ?_⟩) (by assumption) ?_
            · intro w0 hSw
              obtain ⟨z0, z1, z2, z3, z4, z5, -⟩ := hSw
              go_simp
            simp only [Act.put, List.getElem_toArray, List.getElem_cons_zero, List.getElem_cons_succ, List.setIfInBounds_toArray, List.set_cons_zero, List.set_cons_succ]
            refine wpAnyH_take (i := 4) (v := .bool true) rfl (by kernel_rfl) (by kernel_rfl) (by kernel_rfl) (fun _ _ _ h => h) (.inl ⟨by rfl, ?_⟩) (by assumption) ?_
            · intro w0 hSw
              obtain ⟨z0, z1, z2, z3, z4, z5, -⟩ := hSw
              go_simp
            simp only [Act.put, List.getElem_toArray, List.getElem_cons_zero, List.getElem_cons_succ, List.setIfInBounds_toArray, List.set_cons_zero, List.set_cons_succ]
            refine wpAnyH_take (i := 5) (v := undef) rfl (by kernel_rfl) (by kernel_rfl) (by kernel_rfl) (fun _ _ _ h => h) (.inr ⟨by rfl, rfl⟩) (by assumption) ?_
            simp only [Act.put, List.getElem_toArray, List.getElem_cons_zero, List.getElem_cons_succ, List.setIfInBounds_toArray, List.set_cons_zero, List.set_cons_succ]
            refine wpAnyH_take (i := 6) (v := undef) rfl (by kernel_rfl) (by kernel_rfl) (by kernel_rfl) (fun _ _ _ h => h) (.inr ⟨by rfl, rfl⟩) (by assumption) ?_
            simp only [Act.put, List.getElem_toArray, List.getElem_cons_zero, List.getElem_cons_succ, List.setIfInBounds_toArray, List.set_cons_zero, List.set_cons_succ]
            refine wpAnyH_take (i := 7) (v := .bool true) rfl (by kernel_rfl) (by kernel_rfl) (by kernel_rfl) (fun _ _ _ h => h) (.inl ⟨by rfl, ?_⟩) (by assumption) ?_
            · intro w0 hSw
              obtain ⟨z0, z1, z2, z3, z4, z5, -⟩ := hSw
              go_simp
            simp only [Act.put, List.getElem_toArray, List.getElem_cons_zero, List.getElem_cons_succ, List.setIfInBounds_toArray, List.set_cons_zero, List.set_cons_succ]
            refine wpAnyH_take (i := 8) (v := .bool true) rfl (by kernel_rfl) (by kernel_rfl) (by kernel_rfl) (fun _ _ _ h => h) (.inl ⟨by rfl, ?_⟩) (by assumption) ?_
            · intro w0 hSw
              obtain ⟨z0, z1, z2, z3, z4, z5, -⟩ := hSw
              go_simp
            simp only [Act.put, List.getElem_toArray, List.getElem_cons_zero, List.getElem_cons_succ, List.setIfInBounds_toArray, List.set_cons_zero, List.set_cons_succ]
            refine wpAnyH_take (i := 9) (v := .bool true) rfl (by kernel_rfl) (by kernel_rfl) (by kernel_rfl) (fun _ _ _ h => h) (.inl ⟨by rfl, ?_⟩) (by assumption) ?_
            · intro w0 hSw
              obtain ⟨z0, z1, z2, z3, z4, z5, -⟩ := hSw
              go_simp
            simp only [Act.put, List.getElem_toArray, List.getElem_cons_zero, List.getElem_cons_succ, List.setIfInBounds_toArray, List.set_cons_zero, List.set_cons_succ]
            refine wpAnyH_take (i := 10) (v := .agg #[.bool x.isList, .string ⟨x.text.toArray⟩, .slice p x.list.length c]) rfl (by kernel_rfl) (by kernel_rfl) (by kernel_rfl) (fun _ _ _ h => h) (.inl ⟨by rfl, ?_⟩) (by assumption) ?_
            · intro w0 hSw
              obtain ⟨z0, z1, z2, z3, z4, z5, -⟩ := hSw
              go_simp
            simp only [Act.put, List.getElem_toArray, List.getElem_cons_zero, List.getElem_cons_succ, List.setIfInBounds_toArray, List.set_cons_zero, List.set_cons_succ]
            refine wpAnyH_take (i := 11) (v := .agg #[.bool x.isList, .string ⟨x.text.toArray⟩, .slice p x.list.length c]) rfl (by kernel_rfl) (by kernel_rfl) (by kernel_rfl) (fun _ _ _ h => h) (.inl ⟨by rfl, ?_⟩) (by assumption) ?_
            · intro w0 hSw
              obtain ⟨z0, z1, z2, z3, z4, z5, -⟩ := hSw
              go_simp
            simp only [Act.put, List.getElem_toArray, List.getElem_cons_zero, List.getElem_cons_succ, List.setIfInBounds_toArray, List.set_cons_zero, List.set_cons_succ]
            refine wpAnyH_ready (rs := [12]) (by kernel_rfl) (by simp) ?_
            refine AllReadyH.cons rfl (fun K hK => ?_) AllReadyH.nil
            go_simp
            (go_at_call 34; (first | (with_reducible refine (H3.out _ ?_).mono ?_) | (with_reducible refine (H4.out _ ?_).mono ?_) | (with_reducible refine (H7.out _ ?_).mono ?_)); assumption; rintro e w' ⟨rfl, hb'⟩)
            refine hK.out _ _ (two_next (by assumption) hb') (fun hHeld => ?_)
            clear hK K
            try simp only [Act.put, List.getElem_toArray, List.getElem_cons_zero, List.getElem_cons_succ, List.setIfInBounds_toArray, List.set_cons_zero, List.set_cons_succ]
            refine wpAnyH_take (i := 13) (v := .bool true) rfl (by kernel_rfl) (by kernel_rfl) (by kernel_rfl) (fun _ _ _ h => h) (.inl ⟨by rfl, ?_⟩) (by assumption) ?_
            · intro w0 hSw
              obtain ⟨z0, z1, z2, z3, z4, z5, -⟩ := hSw
              go_simp
            simp only [Act.put, List.getElem_toArray, List.getElem_cons_zero, List.getElem_cons_succ, List.setIfInBounds_toArray, List.set_cons_zero, List.set_cons_succ]
            refine wpAnyH_take (i := 14) (v := .bool true) rfl (by kernel_rfl) (by kernel_rfl) (by kernel_rfl) (fun _ _ _ h => h) (.inl ⟨by rfl, ?_⟩) (by assumption) ?_
            · intro w0 hSw
              obtain ⟨z0, z1, z2, z3, z4, z5, -⟩ := hSw
              go_simp
            simp only [Act.put, List.getElem_toArray, List.getElem_cons_zero, List.getElem_cons_succ, List.setIfInBounds_toArray, List.set_cons_zero, List.set_cons_succ]
            refine wpAnyH_take (i := 15) (v := .agg #[.bool x.isList, .string ⟨x.text.toArray⟩, .slice p x.list.length c]) rfl (by kernel_rfl) (by kernel_rfl) (by kernel_rfl) (fun _ _ _ h => h) (.inl ⟨by rfl, ?_⟩) (by assumption) ?_
            · intro w0 hSw
              obtain ⟨z0, z1, z2, z3, z4, z5, -⟩ := hSw
              go_simp
            simp only [Act.put, List.getElem_toArray, List.getElem_cons_zero, List.getElem_cons_succ, List.setIfInBounds_toArray, List.set_cons_zero, List.set_cons_succ]
            refine wpAnyH_take (i := 16) (v := .agg #[.bool y.isList, .string ⟨y.text.toArray⟩, .slice p2 y.list.length c2]) rfl (by kernel_rfl) (by kernel_rfl) (by kernel_rfl) (fun _ _ _ h => h) (.inl ⟨by rfl, ?_⟩) (by assumption) ?_
            · intro w0 hSw
              obtain ⟨z0, z1, z2, z3, z4, z5, -⟩ := hSw
              go_simp
            simp only [Act.put, List.getElem_toArray, List.getElem_cons_zero, List.getElem_cons_succ, List.setIfInBounds_toArray, List.set_cons_zero, List.set_cons_succ]
            refine wpAnyH_take (i := 18) (v := .agg #[.bool y.isList, .string ⟨y.text.toArray⟩, .slice p2 y.list.length c2]) rfl (by kernel_rfl) (by kernel_rfl) (by kernel_rfl) (fun _ _ _ h => h) (.inl ⟨by rfl, ?_⟩) (by assumption) ?_
            · intro w0 hSw
              obtain ⟨z0, z1, z2, z3, z4, z5, -⟩ := hSw
              go_simp
            simp only [Act.put, List.getElem_toArray, List.getElem_cons_zero, List.getElem_cons_succ, List.setIfInBounds_toArray, List.set_cons_zero, List.set_cons_succ]
            refine wpAnyH_take (i := 19) (v := .agg #[.bool x.isList, .string ⟨x.text.toArray⟩, .slice p x.list.length c]) rfl (by kernel_rfl) (by kernel_rfl) (by kernel_rfl) (fun _ _ _ h => h) (.inl ⟨by rfl, ?_⟩) (by assumption) ?_
            · intro w0 hSw
              obtain ⟨z0, z1, z2, z3, z4, z5, -⟩ := hSw
              go_simp
            simp only [Act.put, List.getElem_toArray, List.getElem_cons_zero, List.getElem_cons_succ, List.setIfInBounds_toArray, List.set_cons_zero, List.set_cons_succ]
            refine wpAnyH_ready (rs := [17]) (by kernel_rfl) (by simp) ?_
            refine AllReadyH.cons rfl (fun K hK => ?_) AllReadyH.nil
            go_simp
            (go_at_call 34; (first | (with_reducible refine (H3.out _ ?_).mono ?_) | (with_reducible refine (H4.out _ ?_).mono ?_) | (with_reducible refine (H7.out _ ?_).mono ?_)); assumption; rintro e w' ⟨rfl, hb'⟩)
            refine hK.out _ _ (two_next (by assumption) hb') (fun hHeld => ?_)
            clear hK K
            try simp only [Act.put, List.getElem_toArray, List.getElem_cons_zero, List.getElem_cons_succ, List.setIfInBounds_toArray, List.set_cons_zero, List.set_cons_succ]
            refine wpAnyH_ready (rs := [20]) (by kernel_rfl) (by simp) ?_
            refine AllReadyH.cons rfl (fun K hK => ?_) AllReadyH.nil
            go_simp
            (go_at_call 34; (first | (with_reducible refine (H3.out _ ?_).mono ?_) | (with_reducible refine (H4.out _ ?_).mono ?_) | (with_reducible refine (H7.out _ ?_).mono ?_)); assumption; rintro e w' ⟨rfl, hb'⟩)
            refine hK.out _ _ (two_next (by assumption) hb') (fun hHeld => ?_)
            clear hK K
            try simp only [Act.put, List.getElem_toArray, List.getElem_cons_zero, List.getElem_cons_succ, List.setIfInBounds_toArray, List.set_cons_zero, List.set_cons_succ]
            refine wpAnyH_take (i := 21) (v := .bool true) rfl (by kernel_rfl) (by kernel_rfl) (by kernel_rfl) (fun _ _ _ h => h) (.inl ⟨by rfl, ?_⟩) (by assumption) ?_
            · intro w0 hSw
              obtain ⟨z0, z1, z2, z3, z4, z5, -⟩ := hSw
              go_simp
            simp only [Act.put, List.getElem_toArray, List.getElem_cons_zero, List.getElem_cons_succ, List.setIfInBounds_toArray, List.set_cons_zero, List.set_cons_succ]
            refine wpAnyH_take (i := 22) (v := .bool true) rfl (by kernel_rfl) (by kernel_rfl) (by kernel_rfl) (fun _ _ _ h => h) (.inl ⟨by rfl, ?_⟩) (by assumption) ?_
            · intro w0 hSw
              obtain ⟨z0, z1, z2, z3, z4, z5, -⟩ := hSw
              go_simp
            simp only [Act.put, List.getElem_toArray, List.getElem_cons_zero, List.getElem_cons_succ, List.setIfInBounds_toArray, List.set_cons_zero, List.set_cons_succ]
            refine wpAnyH_take (i := 23) (v := .bool true) rfl (by kernel_rfl) (by kernel_rfl) (by kernel_rfl) (fun _ _ _ h => h) (.inl ⟨by rfl, ?_⟩) (by assumption) ?_
            · intro w0 hSw
              obtain ⟨z0, z1, z2, z3, z4, z5, -⟩ := hSw
              go_simp
            simp only [Act.put, List.getElem_toArray, List.getElem_cons_zero, List.getElem_cons_succ, List.setIfInBounds_toArray, List.set_cons_zero, List.set_cons_succ]
            refine wpAnyH_done (by kernel_rfl) ?_ 0
            rename_i hHeld
            have hR := hHeld.2.2.2.2.2.2
            go_wp2
            go_ret
            exact ⟨ret_true (by simp), hR⟩
        · have h1 := bool_eq hf0
          clear HF f1 f2
          go_wp2_with fail
          have hS := HS.out
          refine wp_region_held_drew (S := (fun w' => w'.cell? ⟨w.heap.size, 0, none⟩ = some (.bool x.isList) ∧ w'.cell? ⟨w.heap.size, 1, none⟩ = some (.string ⟨x.text.toArray⟩) ∧ w'.cell? ⟨w.heap.size, 2, none⟩ = some (.slice p x.list.length c) ∧ w'.cell? ⟨w.heap.size + 1, 0, none⟩ = some (.bool y.isList) ∧ w'.cell? ⟨w.heap.size + 1, 1, none⟩ = some (.string ⟨y.text.toArray⟩) ∧ w'.cell? ⟨w.heap.size + 1, 2, none⟩ = some (.slice p2 y.list.length c2) ∧ Below w.heap.size w w')) (by kernel_rfl) (two_next hS (Below.refl _ _).drew) (fun hHeld => ?_)
          refine wpAnyH_take (i := 0) (v := .bool true) rfl (by kernel_rfl) (by kernel_rfl) (by kernel_rfl) (fun _ _ _ h => h) (.inl ⟨by rfl, ?_⟩) (by assumption) ?_
          · intro w0 hSw
            obtain ⟨z0, z1, z2, z3, z4, z5, -⟩ := hSw
            go_simp
          simp only [Act.put, List.getElem_toArray, List.getElem_cons_zero, List.setIfInBounds_toArray, List.set_cons_zero, List.set_cons_succ]
          refine wpAnyH_take (i := 1) (v := .bool true) rfl (by kernel_rfl) (by kernel_rfl) (by kernel_rfl) (fun _ _ _ h => h) (.inl ⟨by rfl, ?_⟩) (by assumption) ?_
          · intro w0 hSw
            obtain ⟨z0, z1, z2, z3, z4, z5, -⟩ := hSw
            go_simp
          simp only [Act.put, List.getElem_toArray, List.getElem_cons_zero, List.getElem_cons_succ, List.setIfInBounds_toArray, List.set_cons_zero, List.set_cons_succ]
          refine wpAnyH_take (i := 2) (v := .int .i64 0) rfl (by kernel_rfl) (by kernel_rfl) (by kernel_rfl) (fun _ _ _ h => h) (.inl ⟨by rfl, ?_⟩) (by assumption) ?_
          · intro w0 hSw
            obtain ⟨z0, z1, z2, z3, z4, z5, -⟩ := hSw
            go_simp
          simp only [Act.put, List.getElem_toArray, List.getElem_cons_zero, List.getElem_cons_succ, List.setIfInBounds_toArray, List.set_cons_zero, List.set_cons_succ]
          refine wpAnyH_take (i := 3) (v := .bool true) rfl (by kernel_rfl) (by kernel_rfl) (by kernel_rfl) (fun _ _ _ h => h) (.inl ⟨by rfl, ?_⟩) (by assumption) ?_
          · intro w0 hSw
            obtain ⟨z0, z1, z2, z3, z4, z5, -⟩ := hSw
            go_simp
          simp only [Act.put, List.getElem_toArray, List.getElem_cons_zero, List.getElem_cons_succ, List.setIfInBounds_toArray, List.set_cons_zero, List.set_cons_succ]
          refine wpAnyH_take (i := 4) (v := .bool true) rfl (by kernel_rfl) (by kernel_rfl) (by kernel_rfl) (fun _ _ _ h => h) (.inl ⟨by rfl, ?_⟩) (by assumption) ?_
          · intro w0 hSw
            obtain ⟨z0, z1, z2, z3, z4, z5, -⟩ := hSw
            go_simp
          simp only [Act.put, List.getElem_toArray, List.getElem_cons_zero, List.getElem_cons_succ, List.setIfInBounds_toArray, List.set_cons_zero, List.set_cons_succ]
          refine wpAnyH_take (i := 5) (v := undef) rfl (by kernel_rfl) (by kernel_rfl) (by kernel_rfl) (fun _ _ _ h => h) (.inr ⟨by rfl, rfl⟩) (by assumption) ?_
          simp only [Act.put, List.getElem_toArray, List.getElem_cons_zero, List.getElem_cons_succ, List.setIfInBounds_toArray, List.set_cons_zero, List.set_cons_succ]
          refine wpAnyH_take (i := 6) (v := undef) rfl (by kernel_rfl) (by kernel_rfl) (by kernel_rfl) (fun _ _ _ h => h) (.inr ⟨by rfl, rfl⟩) (by assumption) ?_
          simp only [Act.put, List.getElem_toArray, List.getElem_cons_zero, List.getElem_cons_succ, List.setIfInBounds_toArray, List.set_cons_zero, List.set_cons_succ]
          refine wpAnyH_take (i := 7) (v := .bool true) rfl (by kernel_rfl) (by kernel_rfl) (by kernel_rfl) (fun _ _ _ h => h) (.inl ⟨by rfl, ?_⟩) (by assumption) ?_
          · intro w0 hSw
            obtain ⟨z0, z1, z2, z3, z4, z5, -⟩ := hSw
            go_simp
          simp only [Act.put, List.getElem_toArray, List.getElem_cons_zero, List.getElem_cons_succ, List.setIfInBounds_toArray, List.set_cons_zero, List.set_cons_succ]
          refine wpAnyH_take (i := 8) (v := .bool true) rfl (by kernel_rfl) (by kernel_rfl) (by kernel_rfl) (fun _ _ _ h => h) (.inl ⟨by rfl, ?_⟩) (by assumption) ?_
          · intro w0 hSw
            obtain ⟨z0, z1, z2, z3, z4, z5, -⟩ := hSw
            go_simp
          simp only [Act.put, List.getElem_toArray, List.getElem_cons_zero, List.getElem_cons_succ, List.setIfInBounds_toArray, List.set_cons_zero, List.set_cons_succ]
          refine wpAnyH_take (i := 9) (v := .bool true) rfl (by kernel_rfl) (by kernel_rfl) (by kernel_rfl) (fun _ _ _ h => h) (.inl ⟨by rfl, ?_⟩) (by assumption) ?_
          · intro w0 hSw
            obtain ⟨z0, z1, z2, z3, z4, z5, -⟩ := hSw
            go_simp
          simp only [Act.put, List.getElem_toArray, List.getElem_cons_zero, List.getElem_cons_succ, List.setIfInBounds_toArray, List.set_cons_zero, List.set_cons_succ]
          refine wpAnyH_take (i := 10) (v := .agg #[.bool x.isList, .string ⟨x.text.toArray⟩, .slice p x.list.length c]) rfl (by kernel_rfl) (by kernel_rfl) (by kernel_rfl) (fun _ _ _ h => h) (.inl ⟨by rfl, ?_⟩) (by assumption) ?_
          · intro w0 hSw
            obtain ⟨z0, z1, z2, z3, z4, z5, -⟩ := hSw
            go_simp
          simp only [Act.put, List.getElem_toArray, List.getElem_cons_zero, List.getElem_cons_succ, List.setIfInBounds_toArray, List.set_cons_zero, List.set_cons_succ]
          refine wpAnyH_take (i := 11) (v := .agg #[.bool x.isList, .string ⟨x.text.toArray⟩, .slice p x.list.length c]) rfl (by kernel_rfl) (by kernel_rfl) (by kernel_rfl) (fun _ _ _ h => h) (.inl ⟨by rfl, ?_⟩) (by assumption) ?_
          · intro w0 hSw
            obtain ⟨z0, z1, z2, z3, z4, z5, -⟩ := hSw
            go_simp
          simp only [Act.put, List.getElem_toArray, List.getElem_cons_zero, List.getElem_cons_succ, List.setIfInBounds_toArray, List.set_cons_zero, List.set_cons_succ]
          refine wpAnyH_ready (rs := [12]) (by kernel_rfl) (by simp) ?_
          refine AllReadyH.cons rfl (fun K hK => ?_) AllReadyH.nil
          go_simp
          (go_at_call 34; (first | (with_reducible refine (H3.out _ ?_).mono ?_) | (with_reducible refine (H4.out _ ?_).mono ?_) | (with_reducible refine (H7.out _ ?_).mono ?_)); assumption; rintro e w' ⟨rfl, hb'⟩)
          refine hK.out _ _ (two_next (by assumption) hb') (fun hHeld => ?_)
          clear hK K
          try simp only [Act.put, List.getElem_toArray, List.getElem_cons_zero, List.getElem_cons_succ, List.setIfInBounds_toArray, List.set_cons_zero, List.set_cons_succ]
          refine wpAnyH_take (i := 13) (v := .bool true) rfl (by kernel_rfl) (by kernel_rfl) (by kernel_rfl) (fun _ _ _ h => h) (.inl ⟨by rfl, ?_⟩) (by assumption) ?_
          · intro w0 hSw
            obtain ⟨z0, z1, z2, z3, z4, z5, -⟩ := hSw
            go_simp
          simp only [Act.put, List.getElem_toArray, List.getElem_cons_zero, List.getElem_cons_succ, List.setIfInBounds_toArray, List.set_cons_zero, List.set_cons_succ]
          refine wpAnyH_take (i := 14) (v := .bool true) rfl (by kernel_rfl) (by kernel_rfl) (by kernel_rfl) (fun _ _ _ h => h) (.inl ⟨by rfl, ?_⟩) (by assumption) ?_
          · intro w0 hSw
            obtain ⟨z0, z1, z2, z3, z4, z5, -⟩ := hSw
            go_simp
          simp only [Act.put, List.getElem_toArray, List.getElem_cons_zero, List.getElem_cons_succ, List.setIfInBounds_toArray, List.set_cons_zero, List.set_cons_succ]
          refine wpAnyH_take (i := 15) (v := .agg #[.bool x.isList, .string ⟨x.text.toArray⟩, .slice p x.list.length c]) rfl (by kernel_rfl) (by kernel_rfl) (by kernel_rfl) (fun _ _ _ h => h) (.inl ⟨by rfl, ?_⟩) (by assumption) ?_
          · intro w0 hSw
            obtain ⟨z0, z1, z2, z3, z4, z5, -⟩ := hSw
            go_simp
          simp only [Act.put, List.getElem_toArray, List.getElem_cons_zero, List.getElem_cons_succ, List.setIfInBounds_toArray, List.set_cons_zero, List.set_cons_succ]
          refine wpAnyH_take (i := 16) (v := .agg #[.bool y.isList, .string ⟨y.text.toArray⟩, .slice p2 y.list.length c2]) rfl (by kernel_rfl) (by kernel_rfl) (by kernel_rfl) (fun _ _ _ h => h) (.inl ⟨by rfl, ?_⟩) (by assumption) ?_
          · intro w0 hSw
            obtain ⟨z0, z1, z2, z3, z4, z5, -⟩ := hSw
            go_simp
          simp only [Act.put, List.getElem_toArray, List.getElem_cons_zero, List.getElem_cons_succ, List.setIfInBounds_toArray, List.set_cons_zero, List.set_cons_succ]
          refine wpAnyH_take (i := 18) (v := .agg #[.bool y.isList, .string ⟨y.text.toArray⟩, .slice p2 y.list.length c2]) rfl (by kernel_rfl) (by kernel_rfl) (by kernel_rfl) (fun _ _ _ h => h) (.inl ⟨by rfl, ?_⟩) (by assumption) ?_
          · intro w0 hSw
            obtain ⟨z0, z1, z2, z3, z4, z5, -⟩ := hSw
            go_simp
          simp only [Act.put, List.getElem_toArray, List.getElem_cons_zero, List.getElem_cons_succ, List.setIfInBounds_toArray, List.set_cons_zero, List.set_cons_succ]
          refine wpAnyH_take (i := 19) (v := .agg #[.bool x.isList, .string ⟨x.text.toArray⟩, .slice p x.list.length c]) rfl (by kernel_rfl) (by kernel_rfl) (by kernel_rfl) (fun _ _ _ h => h) (.inl ⟨by rfl, ?_⟩) (by assumption) ?_
          · intro w0 hSw
            obtain ⟨z0, z1, z2, z3, z4, z5, -⟩ := hSw
            go_simp
          simp only [Act.put, List.getElem_toArray, List.getElem_cons_zero, List.getElem_cons_succ, List.setIfInBounds_toArray, List.set_cons_zero, List.set_cons_succ]
          refine wpAnyH_ready (rs := [17]) (by kernel_rfl) (by simp) ?_
          refine AllReadyH.cons rfl (fun K hK => ?_) AllReadyH.nil
          go_simp
          (go_at_call 34; (first | (with_reducible refine (H3.out _ ?_).mono ?_) | (with_reducible refine (H4.out _ ?_).mono ?_) | (with_reducible refine (H7.out _ ?_).mono ?_)); assumption; rintro e w' ⟨rfl, hb'⟩)
          refine hK.out _ _ (two_next (by assumption) hb') (fun hHeld => ?_)
          clear hK K
          try simp only [Act.put, List.getElem_toArray, List.getElem_cons_zero, List.getElem_cons_succ, List.setIfInBounds_toArray, List.set_cons_zero, List.set_cons_succ]
          refine wpAnyH_ready (rs := [20]) (by kernel_rfl) (by simp) ?_
          refine AllReadyH.cons rfl (fun K hK => ?_) AllReadyH.nil
          go_simp
          (go_at_call 34; (first | (with_reducible refine (H3.out _ ?_).mono ?_) | (with_reducible refine (H4.out _ ?_).mono ?_) | (with_reducible refine (H7.out _ ?_).mono ?_)); assumption; rintro e w' ⟨rfl, hb'⟩)
          refine hK.out _ _ (two_next (by assumption) hb') (fun hHeld => ?_)
          clear hK K
          try simp only [Act.put, List.getElem_toArray, List.getElem_cons_zero, List.getElem_cons_succ, List.setIfInBounds_toArray, List.set_cons_zero, List.set_cons_succ]
          refine wpAnyH_take (i := 21) (v := .bool true) rfl (by kernel_rfl) (by kernel_rfl) (by kernel_rfl) (fun _ _ _ h => h) (.inl ⟨by rfl, ?_⟩) (by assumption) ?_
          · intro w0 hSw
            obtain ⟨z0, z1, z2, z3, z4, z5, -⟩ := hSw
            go_simp
          simp only [Act.put, List.getElem_toArray, List.getElem_cons_zero, List.getElem_cons_succ, List.setIfInBounds_toArray, List.set_cons_zero, List.set_cons_succ]
          refine wpAnyH_take (i := 22) (v := .bool true) rfl (by kernel_rfl) (by kernel_rfl) (by kernel_rfl) (fun _ _ _ h => h) (.inl ⟨by rfl, ?_⟩) (by assumption) ?_
          · intro w0 hSw
            obtain ⟨z0, z1, z2, z3, z4, z5, -⟩ := hSw
            go_simp
          simp only [Act.put, List.getElem_toArray, List.getElem_cons_zero, List.getElem_cons_succ, List.setIfInBounds_toArray, List.set_cons_zero, List.set_cons_succ]
          refine wpAnyH_take (i := 23) (v := .bool true) rfl (by kernel_rfl) (by kernel_rfl) (by kernel_rfl) (fun _ _ _ h => h) (.inl ⟨by rfl, ?_⟩) (by assumption) ?_
          · intro w0 hSw
            obtain ⟨z0, z1, z2, z3, z4, z5, -⟩ := hSw
            go_simp
          simp only [Act.put, List.getElem_toArray, List.getElem_cons_zero, List.getElem_cons_succ, List.setIfInBounds_toArray, List.set_cons_zero, List.set_cons_succ]
          refine wpAnyH_done (by kernel_rfl) ?_ 0
          rename_i hHeld
          have hR := hHeld.2.2.2.2.2.2
          go_wp2
          go_ret
          exact ⟨ret_true (by simp), hR⟩
      · have g1 := bool_ne hg
        have g2 := bool_eq hg
        by_cases hf0 : f = 0
        · subst hf0
          by_cases hh : h = 0
          · subst hh
            obtain ⟨m1, m2⟩ := f2 rfl rfl
            have m3 : (a.length : Int) + b.length < t.length := by omega
            have m4 : (0 : Int) ≤ t.length - a.length - b.length := by omega
            have m5 : ((t.length : Int) - a.length - b.length).toNat = t.length - a.length - b.length := by omega
            have m6 := ext_from t (t.length - a.length - b.length)
            rw [m2] at m6
            have m7 := app_mk a b
            clear HF f1 f2 m1 m2
            go_wp2_with fail
            have hS := HS.out
            refine wp_region_held_drew (S := (fun w' => w'.cell? ⟨w.heap.size, 0, none⟩ = some (.bool x.isList) ∧ w'.cell? ⟨w.heap.size, 1, none⟩ = some (.string ⟨x.text.toArray⟩) ∧ w'.cell? ⟨w.heap.size, 2, none⟩ = some (.slice p x.list.length c) ∧ w'.cell? ⟨w.heap.size + 1, 0, none⟩ = some (.bool y.isList) ∧ w'.cell? ⟨w.heap.size + 1, 1, none⟩ = some (.string ⟨y.text.toArray⟩) ∧ w'.cell? ⟨w.heap.size + 1, 2, none⟩ = some (.slice p2 y.list.length c2) ∧ Below w.heap.size w w')) (by kernel_rfl) (two_next hS (Below.refl _ _).drew) (fun hHeld => ?_)
            refine wpAnyH_take (i := 0) (v := .bool true) rfl (by kernel_rfl) (by kernel_rfl) (by kernel_rfl) (fun _ _ _ h => h) (.inl ⟨by rfl, ?_⟩) (by assumption) ?_
            · intro w0 hSw
              obtain ⟨z0, z1, z2, z3, z4, z5, -⟩ := hSw
              go_simp
            simp only [Act.put, List.getElem_toArray, List.getElem_cons_zero, List.setIfInBounds_toArray, List.set_cons_zero, List.set_cons_succ]
            refine wpAnyH_take (i := 1) (v := .bool true) rfl (by kernel_rfl) (by kernel_rfl) (by kernel_rfl) (fun _ _ _ h => h) (.inl ⟨by rfl, ?_⟩) (by assumption) ?_
            · intro w0 hSw
              obtain ⟨z0, z1, z2, z3, z4, z5, -⟩ := hSw
              go_simp
            simp only [Act.put, List.getElem_toArray, List.getElem_cons_zero, List.getElem_cons_succ, List.setIfInBounds_toArray, List.set_cons_zero, List.set_cons_succ]
            refine wpAnyH_take (i := 2) (v := .int .i64 0) rfl (by kernel_rfl) (by kernel_rfl) (by kernel_rfl) (fun _ _ _ h => h) (.inl ⟨by rfl, ?_⟩) (by assumption) ?_
            · intro w0 hSw
              obtain ⟨z0, z1, z2, z3, z4, z5, -⟩ := hSw
              go_simp
            simp only [Act.put, List.getElem_toArray, List.getElem_cons_zero, List.getElem_cons_succ, List.setIfInBounds_toArray, List.set_cons_zero, List.set_cons_succ]
            refine wpAnyH_take (i := 3) (v := .bool true) rfl (by kernel_rfl) (by kernel_rfl) (by kernel_rfl) (fun _ _ _ h => h) (.inl ⟨by rfl, ?_⟩) (by assumption) ?_
            · intro w0 hSw
              obtain ⟨z0, z1, z2, z3, z4, z5, -⟩ := hSw
              go_simp
            simp only [Act.put, List.getElem_toArray, List.getElem_cons_zero, List.getElem_cons_succ, List.setIfInBounds_toArray, List.set_cons_zero, List.set_cons_succ]
            refine wpAnyH_take (i := 4) (v := .bool true) rfl (by kernel_rfl) (by kernel_rfl) (by kernel_rfl) (fun _ _ _ h => h) (.inl ⟨by rfl, ?_⟩) (by assumption) ?_
            · intro w0 hSw
              obtain ⟨z0, z1, z2, z3, z4, z5, -⟩ := hSw
              go_simp
            simp only [Act.put, List.getElem_toArray, List.getElem_cons_zero, List.getElem_cons_succ, List.setIfInBounds_toArray, List.set_cons_zero, List.set_cons_succ]
            refine wpAnyH_take (i := 5) (v := undef) rfl (by kernel_rfl) (by kernel_rfl) (by kernel_rfl) (fun _ _ _ h => h) (.inr ⟨by rfl, rfl⟩) (by assumption) ?_
            simp only [Act.put, List.getElem_toArray, List.getElem_cons_zero, List.getElem_cons_succ, List.setIfInBounds_toArray, List.set_cons_zero, List.set_cons_succ]
            refine wpAnyH_take (i := 6) (v := undef) rfl (by kernel_rfl) (by kernel_rfl) (by kernel_rfl) (fun _ _ _ h => h) (.inr ⟨by rfl, rfl⟩) (by assumption) ?_
            simp only [Act.put, List.getElem_toArray, List.getElem_cons_zero, List.getElem_cons_succ, List.setIfInBounds_toArray, List.set_cons_zero, List.set_cons_succ]
            refine wpAnyH_take (i := 7) (v := .bool true) rfl (by kernel_rfl) (by kernel_rfl) (by kernel_rfl) (fun _ _ _ h => h) (.inl ⟨by rfl, ?_⟩) (by assumption) ?_
            · intro w0 hSw
              obtain ⟨z0, z1, z2, z3, z4, z5, -⟩ := hSw
              go_simp
            simp only [Act.put, List.getElem_toArray, List.getElem_cons_zero, List.getElem_cons_succ, List.setIfInBounds_toArray, List.set_cons_zero, List.set_cons_succ]
            refine wpAnyH_take (i := 8) (v := .bool true) rfl (by kernel_rfl) (by kernel_rfl) (by kernel_rfl) (fun _ _ _ h => h) (.inl ⟨by rfl, ?_⟩) (by assumption) ?_
            · intro w0 hSw
              obtain ⟨z0, z1, z2, z3, z4, z5, -⟩ := hSw
              go_simp
            simp only [Act.put, List.getElem_toArray, List.getElem_cons_zero, List.getElem_cons_succ, List.setIfInBounds_toArray, List.set_cons_zero, List.set_cons_succ]
            refine wpAnyH_take (i := 9) (v := .bool true) rfl (by kernel_rfl) (by kernel_rfl) (by kernel_rfl) (fun _ _ _ h => h) (.inl ⟨by rfl, ?_⟩) (by assumption) ?_
            · intro w0 hSw
              obtain ⟨z0, z1, z2, z3, z4, z5, -⟩ := hSw
              go_simp
            simp only [Act.put, List.getElem_toArray, List.getElem_cons_zero, List.getElem_cons_succ, List.setIfInBounds_toArray, List.set_cons_zero, List.set_cons_succ]
            refine wpAnyH_take (i := 10) (v := .agg #[.bool x.isList, .string ⟨x.text.toArray⟩, .slice p x.list.length c]) rfl (by kernel_rfl) (by kernel_rfl) (by kernel_rfl) (fun _ _ _ h => h) (.inl ⟨by rfl, ?_⟩) (by assumption) ?_
            · intro w0 hSw
              obtain ⟨z0, z1, z2, z3, z4, z5, -⟩ := hSw
              go_simp
            simp only [Act.put, List.getElem_toArray, List.getElem_cons_zero, List.getElem_cons_succ, List.setIfInBounds_toArray, List.set_cons_zero, List.set_cons_succ]
            refine wpAnyH_take (i := 11) (v := .agg #[.bool x.isList, .string ⟨x.text.toArray⟩, .slice p x.list.length c]) rfl (by kernel_rfl) (by kernel_rfl) (by kernel_rfl) (fun _ _ _ h => h) (.inl ⟨by rfl, ?_⟩) (by assumption) ?_
            · intro w0 hSw
              obtain ⟨z0, z1, z2, z3, z4, z5, -⟩ := hSw
              go_simp
            simp only [Act.put, List.getElem_toArray, List.getElem_cons_zero, List.getElem_cons_succ, List.setIfInBounds_toArray, List.set_cons_zero, List.set_cons_succ]
            refine wpAnyH_ready (rs := [12]) (by kernel_rfl) (by simp) ?_
            refine AllReadyH.cons rfl (fun K hK => ?_) AllReadyH.nil
            go_simp
            (go_at_call 34; (first | (with_reducible refine (H3.out _ ?_).mono ?_) | (with_reducible refine (H4.out _ ?_).mono ?_) | (with_reducible refine (H7.out _ ?_).mono ?_)); assumption; rintro e w' ⟨rfl, hb'⟩)
            refine hK.out _ _ (two_next (by assumption) hb') (fun hHeld => ?_)
            clear hK K
            try simp only [Act.put, List.getElem_toArray, List.getElem_cons_zero, List.getElem_cons_succ, List.setIfInBounds_toArray, List.set_cons_zero, List.set_cons_succ]
            refine wpAnyH_take (i := 13) (v := .bool true) rfl (by kernel_rfl) (by kernel_rfl) (by kernel_rfl) (fun _ _ _ h => h) (.inl ⟨by rfl, ?_⟩) (by assumption) ?_
            · intro w0 hSw
              obtain ⟨z0, z1, z2, z3, z4, z5, -⟩ := hSw
              go_simp
            simp only [Act.put, List.getElem_toArray, List.getElem_cons_zero, List.getElem_cons_succ, List.setIfInBounds_toArray, List.set_cons_zero, List.set_cons_succ]
            refine wpAnyH_take (i := 14) (v := .bool true) rfl (by kernel_rfl) (by kernel_rfl) (by kernel_rfl) (fun _ _ _ h => h) (.inl ⟨by rfl, ?_⟩) (by assumption) ?_
            · intro w0 hSw
              obtain ⟨z0, z1, z2, z3, z4, z5, -⟩ := hSw
              go_simp
            simp only [Act.put, List.getElem_toArray, List.getElem_cons_zero, List.getElem_cons_succ, List.setIfInBounds_toArray, List.set_cons_zero, List.set_cons_succ]
            refine wpAnyH_take (i := 15) (v := .agg #[.bool x.isList, .string ⟨x.text.toArray⟩, .slice p x.list.length c]) rfl (by kernel_rfl) (by kernel_rfl) (by kernel_rfl) (fun _ _ _ h => h) (.inl ⟨by rfl, ?_⟩) (by assumption) ?_
            · intro w0 hSw
              obtain ⟨z0, z1, z2, z3, z4, z5, -⟩ := hSw
              go_simp
            simp only [Act.put, List.getElem_toArray, List.getElem_cons_zero, List.getElem_cons_succ, List.setIfInBounds_toArray, List.set_cons_zero, List.set_cons_succ]
            refine wpAnyH_take (i := 16) (v := .agg #[.bool y.isList, .string ⟨y.text.toArray⟩, .slice p2 y.list.length c2]) rfl (by kernel_rfl) (by kernel_rfl) (by kernel_rfl) (fun _ _ _ h => h) (.inl ⟨by rfl, ?_⟩) (by assumption) ?_
            · intro w0 hSw
              obtain ⟨z0, z1, z2, z3, z4, z5, -⟩ := hSw
              go_simp
            simp only [Act.put, List.getElem_toArray, List.getElem_cons_zero, List.getElem_cons_succ, List.setIfInBounds_toArray, List.set_cons_zero, List.set_cons_succ]
            refine wpAnyH_take (i := 18) (v := .agg #[.bool y.isList, .string ⟨y.text.toArray⟩, .slice p2 y.list.length c2]) rfl (by kernel_rfl) (by kernel_rfl) (by kernel_rfl) (fun _ _ _ h => h) (.inl ⟨by rfl, ?_⟩) (by assumption) ?_
            · intro w0 hSw
              obtain ⟨z0, z1, z2, z3, z4, z5, -⟩ := hSw
              go_simp
            simp only [Act.put, List.getElem_toArray, List.getElem_cons_zero, List.getElem_cons_succ, List.setIfInBounds_toArray, List.set_cons_zero, List.set_cons_succ]
            refine wpAnyH_take (i := 19) (v := .agg #[.bool x.isList, .string ⟨x.text.toArray⟩, .slice p x.list.length c]) rfl (by kernel_rfl) (by kernel_rfl) (by kernel_rfl) (fun _ _ _ h => h) (.inl ⟨by rfl, ?_⟩) (by assumption) ?_
            · intro w0 hSw
              obtain ⟨z0, z1, z2, z3, z4, z5, -⟩ := hSw
              go_simp
            simp only [Act.put, List.getElem_toArray, List.getElem_cons_zero, List.getElem_cons_succ, List.setIfInBounds_toArray, List.set_cons_zero, List.set_cons_succ]
            refine wpAnyH_ready (rs := [17]) (by kernel_rfl) (by simp) ?_
            refine AllReadyH.cons rfl (fun K hK => ?_) AllReadyH.nil
            go_simp
            (go_at_call 34; (first | (with_reducible refine (H3.out _ ?_).mono ?_) | (with_reducible refine (H4.out _ ?_).mono ?_) | (with_reducible refine (H7.out _ ?_).mono ?_)); assumption; rintro e w' ⟨rfl, hb'⟩)
            refine hK.out _ _ (two_next (by assumption) hb') (fun hHeld => ?_)
            clear hK K
            try simp only [Act.put, List.getElem_toArray, List.getElem_cons_zero, List.getElem_cons_succ, List.setIfInBounds_toArray, List.set_cons_zero, List.set_cons_succ]
            refine wpAnyH_ready (rs := [20]) (by kernel_rfl) (by simp) ?_
            refine AllReadyH.cons rfl (fun K hK => ?_) AllReadyH.nil
            go_simp
            (go_at_call 34; (first | (with_reducible refine (H3.out _ ?_).mono ?_) | (with_reducible refine (H4.out _ ?_).mono ?_) | (with_reducible refine (H7.out _ ?_).mono ?_)); assumption; rintro e w' ⟨rfl, hb'⟩)
            refine hK.out _ _ (two_next (by assumption) hb') (fun hHeld => ?_)
            clear hK K
            try simp only [Act.put, List.getElem_toArray, List.getElem_cons_zero, List.getElem_cons_succ, List.setIfInBounds_toArray, List.set_cons_zero, List.set_cons_succ]
            refine wpAnyH_take (i := 21) (v := .bool true) rfl (by kernel_rfl) (by kernel_rfl) (by kernel_rfl) (fun _ _ _ h => h) (.inl ⟨by rfl, ?_⟩) (by assumption) ?_
            · intro w0 hSw
              obtain ⟨z0, z1, z2, z3, z4, z5, -⟩ := hSw
              go_simp
            simp only [Act.put, List.getElem_toArray, List.getElem_cons_zero, List.getElem_cons_succ, List.setIfInBounds_toArray, List.set_cons_zero, List.set_cons_succ]
            refine wpAnyH_take (i := 22) (v := .bool true) rfl (by kernel_rfl) (by kernel_rfl) (by kernel_rfl) (fun _ _ _ h => h) (.inl ⟨by rfl, ?_⟩) (by assumption) ?_
            · intro w0 hSw
              obtain ⟨z0, z1, z2, z3, z4, z5, -⟩ := hSw
              go_simp
            simp only [Act.put, List.getElem_toArray, List.getElem_cons_zero, List.getElem_cons_succ, List.setIfInBounds_toArray, List.set_cons_zero, List.set_cons_succ]
            refine wpAnyH_take (i := 23) (v := .bool true) rfl (by kernel_rfl) (by kernel_rfl) (by kernel_rfl) (fun _ _ _ h => h) (.inl ⟨by rfl, ?_⟩) (by assumption) ?_
            · intro w0 hSw
              obtain ⟨z0, z1, z2, z3, z4, z5, -⟩ := hSw
              go_simp
            simp only [Act.put, List.getElem_toArray, List.getElem_cons_zero, List.getElem_cons_succ, List.setIfInBounds_toArray, List.set_cons_zero, List.set_cons_succ]
            refine wpAnyH_done (by kernel_rfl) ?_ 0
            rename_i hHeld
            have hR := hHeld.2.2.2.2.2.2
            go_wp2
            go_ret
            exact ⟨ret_true (by simp), hR⟩
          · have h1 := bool_eq hh
            clear HF f1 f2
            go_wp2_with fail
            have hS := HS.out
            refine wp_region_held_drew (S := (fun w' => w'.cell? ⟨w.heap.size, 0, none⟩ = some (.bool x.isList) ∧ w'.cell? ⟨w.heap.size, 1, none⟩ = some (.string ⟨x.text.toArray⟩) ∧ w'.cell? ⟨w.heap.size, 2, none⟩ = some (.slice p x.list.length c) ∧ w'.cell? ⟨w.heap.size + 1, 0, none⟩ = some (.bool y.isList) ∧ w'.cell? ⟨w.heap.size + 1, 1, none⟩ = some (.string ⟨y.text.toArray⟩) ∧ w'.cell? ⟨w.heap.size + 1, 2, none⟩ = some (.slice p2 y.list.length c2) ∧ Below w.heap.size w w')) (by kernel_rfl) (two_next hS (Below.refl _ _).drew) (fun hHeld => ?_)
            refine wpAnyH_take (i := 0) (v := .bool true) rfl (by kernel_rfl) (by kernel_rfl) (by kernel_rfl) (fun _ _ _ h => h) (.inl ⟨by rfl, ?_⟩) (by assumption) ?_
            · intro w0 hSw
              obtain ⟨z0, z1, z2, z3, z4, z5, -⟩ := hSw
              go_simp
            simp only [Act.put, List.getElem_toArray, List.getElem_cons_zero, List.setIfInBounds_toArray, List.set_cons_zero, List.set_cons_succ]
            refine wpAnyH_take (i := 1) (v := .bool true) rfl (by kernel_rfl) (by kernel_rfl) (by kernel_rfl) (fun _ _ _ h => h) (.inl ⟨by rfl, ?_⟩) (by assumption) ?_
            · intro w0 hSw
              obtain ⟨z0, z1, z2, z3, z4, z5, -⟩ := hSw
              go_simp
            simp only [Act.put, List.getElem_toArray, List.getElem_cons_zero, List.getElem_cons_succ, List.setIfInBounds_toArray, List.set_cons_zero, List.set_cons_succ]
            refine wpAnyH_take (i := 2) (v := .int .i64 0) rfl (by kernel_rfl) (by kernel_rfl) (by kernel_rfl) (fun _ _ _ h => h) (.inl ⟨by rfl, ?_⟩) (by assumption) ?_
            · intro w0 hSw
              obtain ⟨z0, z1, z2, z3, z4, z5, -⟩ := hSw
              go_simp
            simp only [Act.put, List.getElem_toArray, List.getElem_cons_zero, List.getElem_cons_succ, List.setIfInBounds_toArray, List.set_cons_zero, List.set_cons_succ]
            refine wpAnyH_take (i := 3) (v := .bool true) rfl (by kernel_rfl) (by kernel_rfl) (by kernel_rfl) (fun _ _ _ h => h) (.inl ⟨by rfl, ?_⟩) (by assumption) ?_
            · intro w0 hSw
              obtain ⟨z0, z1, z2, z3, z4, z5, -⟩ := hSw
              go_simp
            simp only [Act.put, List.getElem_toArray, List.getElem_cons_zero, List.getElem_cons_succ, List.setIfInBounds_toArray, List.set_cons_zero, List.set_cons_succ]
            refine wpAnyH_take (i := 4) (v := .bool true) rfl (by kernel_rfl) (by kernel_rfl) (by kernel_rfl) (fun _ _ _ h => h) (.inl ⟨by rfl, ?_⟩) (by assumption) ?_
            · intro w0 hSw
              obtain ⟨z0, z1, z2, z3, z4, z5, -⟩ := hSw
              go_simp
            simp only [Act.put, List.getElem_toArray, List.getElem_cons_zero, List.getElem_cons_succ, List.setIfInBounds_toArray, List.set_cons_zero, List.set_cons_succ]
            refine wpAnyH_take (i := 5) (v := undef) rfl (by kernel_rfl) (by kernel_rfl) (by kernel_rfl) (fun _ _ _ h => h) (.inr ⟨by rfl, rfl⟩) (by assumption) ?_
            simp only [Act.put, List.getElem_toArray, List.getElem_cons_zero, List.getElem_cons_succ, List.setIfInBounds_toArray, List.set_cons_zero, List.set_cons_succ]
            refine wpAnyH_take (i := 6) (v := undef) rfl (by kernel_rfl) (by kernel_rfl) (by kernel_rfl) (fun _ _ _ h => h) (.inr ⟨by rfl, rfl⟩) (by assumption) ?_
            simp only [Act.put, List.getElem_toArray, List.getElem_cons_zero, List.getElem_cons_succ, List.setIfInBounds_toArray, List.set_cons_zero, List.set_cons_succ]
            refine wpAnyH_take (i := 7) (v := .bool true) rfl (by kernel_rfl) (by kernel_rfl) (by kernel_rfl) (fun _ _ _ h => h) (.inl ⟨by rfl, ?_⟩) (by assumption) ?_
            · intro w0 hSw
              obtain ⟨z0, z1, z2, z3, z4, z5, -⟩ := hSw
              go_simp
            simp only [Act.put, List.getElem_toArray, List.getElem_cons_zero, List.getElem_cons_succ, List.setIfInBounds_toArray, List.set_cons_zero, List.set_cons_succ]
            refine wpAnyH_take (i := 8) (v := .bool true) rfl (by kernel_rfl) (by kernel_rfl) (by kernel_rfl) (fun _ _ _ h => h) (.inl ⟨by rfl, ?_⟩) (by assumption) ?_
            · intro w0 hSw
              obtain ⟨z0, z1, z2, z3, z4, z5, -⟩ := hSw
              go_simp
            simp only [Act.put, List.getElem_toArray, List.getElem_cons_zero, List.getElem_cons_succ, List.setIfInBounds_toArray, List.set_cons_zero, List.set_cons_succ]
            refine wpAnyH_take (i := 9) (v := .bool true) rfl (by kernel_rfl) (by kernel_rfl) (by kernel_rfl) (fun _ _ _ h => h) (.inl ⟨by rfl, ?_⟩) (by assumption) ?_
            · intro w0 hSw
              obtain ⟨z0, z1, z2, z3, z4, z5, -⟩ := hSw
              go_simp
            simp only [Act.put, List.getElem_toArray, List.getElem_cons_zero, List.getElem_cons_succ, List.setIfInBounds_toArray, List.set_cons_zero, List.set_cons_succ]
            refine wpAnyH_take (i := 10) (v := .agg #[.bool x.isList, .string ⟨x.text.toArray⟩, .slice p x.list.length c]) rfl (by kernel_rfl) (by kernel_rfl) (by kernel_rfl) (fun _ _ _ h => h) (.inl ⟨by rfl, ?_⟩) (by assumption) ?_
            · intro w0 hSw
              obtain ⟨z0, z1, z2, z3, z4, z5, -⟩ := hSw
              go_simp
            simp only [Act.put, List.getElem_toArray, List.getElem_cons_zero, List.getElem_cons_succ, List.setIfInBounds_toArray, List.set_cons_zero, List.set_cons_succ]
            refine wpAnyH_take (i := 11) (v := .agg #[.bool x.isList, .string ⟨x.text.toArray⟩, .slice p x.list.length c]) rfl (by kernel_rfl) (by kernel_rfl) (by kernel_rfl) (fun _ _ _ h => h) (.inl ⟨by rfl, ?_⟩) (by assumption) ?_
            · intro w0 hSw
              obtain ⟨z0, z1, z2, z3, z4, z5, -⟩ := hSw
              go_simp
            simp only [Act.put, List.getElem_toArray, List.getElem_cons_zero, List.getElem_cons_succ, List.setIfInBounds_toArray, List.set_cons_zero, List.set_cons_succ]
            refine wpAnyH_ready (rs := [12]) (by kernel_rfl) (by simp) ?_
            refine AllReadyH.cons rfl (fun K hK => ?_) AllReadyH.nil
            go_simp
            (go_at_call 34; (first | (with_reducible refine (H3.out _ ?_).mono ?_) | (with_reducible refine (H4.out _ ?_).mono ?_) | (with_reducible refine (H7.out _ ?_).mono ?_)); assumption; rintro e w' ⟨rfl, hb'⟩)
            refine hK.out _ _ (two_next (by assumption) hb') (fun hHeld => ?_)
            clear hK K
            try simp only [Act.put, List.getElem_toArray, List.getElem_cons_zero, List.getElem_cons_succ, List.setIfInBounds_toArray, List.set_cons_zero, List.set_cons_succ]
            refine wpAnyH_take (i := 13) (v := .bool true) rfl (by kernel_rfl) (by kernel_rfl) (by kernel_rfl) (fun _ _ _ h => h) (.inl ⟨by rfl, ?_⟩) (by assumption) ?_
            · intro w0 hSw
              obtain ⟨z0, z1, z2, z3, z4, z5, -⟩ := hSw
              go_simp
            simp only [Act.put, List.getElem_toArray, List.getElem_cons_zero, List.getElem_cons_succ, List.setIfInBounds_toArray, List.set_cons_zero, List.set_cons_succ]
            refine wpAnyH_take (i := 14) (v := .bool true) rfl (by kernel_rfl) (by kernel_rfl) (by kernel_rfl) (fun _ _ _ h => h) (.inl ⟨by rfl, ?_⟩) (by assumption) ?_
            · intro w0 hSw
              obtain ⟨z0, z1, z2, z3, z4, z5, -⟩ := hSw
              go_simp
            simp only [Act.put, List.getElem_toArray, List.getElem_cons_zero, List.getElem_cons_succ, List.setIfInBounds_toArray, List.set_cons_zero, List.set_cons_succ]
            refine wpAnyH_take (i := 15) (v := .agg #[.bool x.isList, .string ⟨x.text.toArray⟩, .slice p x.list.length c]) rfl (by kernel_rfl) (by kernel_rfl) (by kernel_rfl) (fun _ _ _ h => h) (.inl ⟨by rfl, ?_⟩) (by assumption) ?_
            · intro w0 hSw
              obtain ⟨z0, z1, z2, z3, z4, z5, -⟩ := hSw
              go_simp
            simp only [Act.put, List.getElem_toArray, List.getElem_cons_zero, List.getElem_cons_succ, List.setIfInBounds_toArray, List.set_cons_zero, List.set_cons_succ]
            refine wpAnyH_take (i := 16) (v := .agg #[.bool y.isList, .string ⟨y.text.toArray⟩, .slice p2 y.list.length c2]) rfl (by kernel_rfl) (by kernel_rfl) (by kernel_rfl) (fun _ _ _ h => h) (.inl ⟨by rfl, ?_⟩) (by assumption) ?_
            · intro w0 hSw
              obtain ⟨z0, z1, z2, z3, z4, z5, -⟩ := hSw
              go_simp
            simp only [Act.put, List.getElem_toArray, List.getElem_cons_zero, List.getElem_cons_succ, List.setIfInBounds_toArray, List.set_cons_zero, List.set_cons_succ]
            refine wpAnyH_take (i := 18) (v := .agg #[.bool y.isList, .string ⟨y.text.toArray⟩, .slice p2 y.list.length c2]) rfl (by kernel_rfl) (by kernel_rfl) (by kernel_rfl) (fun _ _ _ h => h) (.inl ⟨by rfl, ?_⟩) (by assumption) ?_
            · intro w0 hSw
              obtain ⟨z0, z1, z2, z3, z4, z5, -⟩ := hSw
              go_simp
            simp only [Act.put, List.getElem_toArray, List.getElem_cons_zero, List.getElem_cons_succ, List.setIfInBounds_toArray, List.set_cons_zero, List.set_cons_succ]
            refine wpAnyH_take (i := 19) (v := .agg #[.bool x.isList, .string ⟨x.text.toArray⟩, .slice p x.list.length c]) rfl (by kernel_rfl) (by kernel_rfl) (by kernel_rfl) (fun _ _ _ h => h) (.inl ⟨by rfl, ?_⟩) (by assumption) ?_
            · intro w0 hSw
              obtain ⟨z0, z1, z2, z3, z4, z5, -⟩ := hSw
              go_simp
            simp only [Act.put, List.getElem_toArray, List.getElem_cons_zero, List.getElem_cons_succ, List.setIfInBounds_toArray, List.set_cons_zero, List.set_cons_succ]
            refine wpAnyH_ready (rs := [17]) (by kernel_rfl) (by simp) ?_
            refine AllReadyH.cons rfl (fun K hK => ?_) AllReadyH.nil
            go_simp
            (go_at_call 34; (first | (with_reducible refine (H3.out _ ?_).mono ?_) | (with_reducible refine (H4.out _ ?_).mono ?_) | (with_reducible refine (H7.out _ ?_).mono ?_)); assumption; rintro e w' ⟨rfl, hb'⟩)
            refine hK.out _ _ (two_next (by assumption) hb') (fun hHeld => ?_)
            clear hK K
            try simp only [Act.put, List.getElem_toArray, List.getElem_cons_zero, List.getElem_cons_succ, List.setIfInBounds_toArray, List.set_cons_zero, List.set_cons_succ]
            refine wpAnyH_ready (rs := [20]) (by kernel_rfl) (by simp) ?_
            refine AllReadyH.cons rfl (fun K hK => ?_) AllReadyH.nil
            go_simp
            (go_at_call 34; (first | (with_reducible refine (H3.out _ ?_).mono ?_) | (with_reducible refine (H4.out _ ?_).mono ?_) | (with_reducible refine (H7.out _ ?_).mono ?_)); assumption; rintro e w' ⟨rfl, hb'⟩)
            refine hK.out _ _ (two_next (by assumption) hb') (fun hHeld => ?_)
            clear hK K
            try simp only [Act.put, List.getElem_toArray, List.getElem_cons_zero, List.getElem_cons_succ, List.setIfInBounds_toArray, List.set_cons_zero, List.set_cons_succ]
            refine wpAnyH_take (i := 21) (v := .bool true) rfl (by kernel_rfl) (by kernel_rfl) (by kernel_rfl) (fun _ _ _ h => h) (.inl ⟨by rfl, ?_⟩) (by assumption) ?_
            · intro w0 hSw
              obtain ⟨z0, z1, z2, z3, z4, z5, -⟩ := hSw
              go_simp
            simp only [Act.put, List.getElem_toArray, List.getElem_cons_zero, List.getElem_cons_succ, List.setIfInBounds_toArray, List.set_cons_zero, List.set_cons_succ]
            refine wpAnyH_take (i := 22) (v := .bool true) rfl (by kernel_rfl) (by kernel_rfl) (by kernel_rfl) (fun _ _ _ h => h) (.inl ⟨by rfl, ?_⟩) (by assumption) ?_
            · intro w0 hSw
              obtain ⟨z0, z1, z2, z3, z4, z5, -⟩ := hSw
              go_simp
            simp only [Act.put, List.getElem_toArray, List.getElem_cons_zero, List.getElem_cons_succ, List.setIfInBounds_toArray, List.set_cons_zero, List.set_cons_succ]
            refine wpAnyH_take (i := 23) (v := .bool true) rfl (by kernel_rfl) (by kernel_rfl) (by kernel_rfl) (fun _ _ _ h => h) (.inl ⟨by rfl, ?_⟩) (by assumption) ?_
            · intro w0 hSw
              obtain ⟨z0, z1, z2, z3, z4, z5, -⟩ := hSw
              go_simp
            simp only [Act.put, List.getElem_toArray, List.getElem_cons_zero, List.getElem_cons_succ, List.setIfInBounds_toArray, List.set_cons_zero, List.set_cons_succ]
            refine wpAnyH_done (by kernel_rfl) ?_ 0
            rename_i hHeld
            have hR := hHeld.2.2.2.2.2.2
            go_wp2
            go_ret
            exact ⟨ret_true (by simp), hR⟩
        · have h1 := bool_eq hf0
          clear HF f1 f2
          go_wp2_with fail
          have hS := HS.out
          refine wp_region_held_drew (S := (fun w' => w'.cell? ⟨w.heap.size, 0, none⟩ = some (.bool x.isList) ∧ w'.cell? ⟨w.heap.size, 1, none⟩ = some (.string ⟨x.text.toArray⟩) ∧ w'.cell? ⟨w.heap.size, 2, none⟩ = some (.slice p x.list.length c) ∧ w'.cell? ⟨w.heap.size + 1, 0, none⟩ = some (.bool y.isList) ∧ w'.cell? ⟨w.heap.size + 1, 1, none⟩ = some (.string ⟨y.text.toArray⟩) ∧ w'.cell? ⟨w.heap.size + 1, 2, none⟩ = some (.slice p2 y.list.length c2) ∧ Below w.heap.size w w')) (by kernel_rfl) (two_next hS (Below.refl _ _).drew) (fun hHeld => ?_)
          refine wpAnyH_take (i := 0) (v := .bool true) rfl (by kernel_rfl) (by kernel_rfl) (by kernel_rfl) (fun _ _ _ h => h) (.inl ⟨by rfl, ?_⟩) (by assumption) ?_
          · intro w0 hSw
            obtain ⟨z0, z1, z2, z3, z4, z5, -⟩ := hSw
            go_simp
          simp only [Act.put, List.getElem_toArray, List.getElem_cons_zero, List.setIfInBounds_toArray, List.set_cons_zero, List.set_cons_succ]
          refine wpAnyH_take (i := 1) (v := .bool true) rfl (by kernel_rfl) (by kernel_rfl) (by kernel_rfl) (fun _ _ _ h => h) (.inl ⟨by rfl, ?_⟩) (by assumption) ?_
          · intro w0 hSw
            obtain ⟨z0, z1, z2, z3, z4, z5, -⟩ := hSw
            go_simp
          simp only [Act.put, List.getElem_toArray, List.getElem_cons_zero, List.getElem_cons_succ, List.setIfInBounds_toArray, List.set_cons_zero, List.set_cons_succ]
          refine wpAnyH_take (i := 2) (v := .int .i64 0) rfl (by kernel_rfl) (by kernel_rfl) (by kernel_rfl) (fun _ _ _ h => h) (.inl ⟨by rfl, ?_⟩) (by assumption) ?_
          · intro w0 hSw
            obtain ⟨z0, z1, z2, z3, z4, z5, -⟩ := hSw
            go_simp
          simp only [Act.put, List.getElem_toArray, List.getElem_cons_zero, List.getElem_cons_succ, List.setIfInBounds_toArray, List.set_cons_zero, List.set_cons_succ]
          refine wpAnyH_take (i := 3) (v := .bool true) rfl (by kernel_rfl) (by kernel_rfl) (by kernel_rfl) (fun _ _ _ h => h) (.inl ⟨by rfl, ?_⟩) (by assumption) ?_
          · intro w0 hSw
            obtain ⟨z0, z1, z2, z3, z4, z5, -⟩ := hSw
            go_simp
          simp only [Act.put, List.getElem_toArray, List.getElem_cons_zero, List.getElem_cons_succ, List.setIfInBounds_toArray, List.set_cons_zero, List.set_cons_succ]
          refine wpAnyH_take (i := 4) (v := .bool true) rfl (by kernel_rfl) (by kernel_rfl) (by kernel_rfl) (fun _ _ _ h => h) (.inl ⟨by rfl, ?_⟩) (by assumption) ?_
          · intro w0 hSw
            obtain ⟨z0, z1, z2, z3, z4, z5, -⟩ := hSw
            go_simp
          simp only [Act.put, List.getElem_toArray, List.getElem_cons_zero, List.getElem_cons_succ, List.setIfInBounds_toArray, List.set_cons_zero, List.set_cons_succ]
          refine wpAnyH_take (i := 5) (v := undef) rfl (by kernel_rfl) (by kernel_rfl) (by kernel_rfl) (fun _ _ _ h => h) (.inr ⟨by rfl, rfl⟩) (by assumption) ?_
          simp only [Act.put, List.getElem_toArray, List.getElem_cons_zero, List.getElem_cons_succ, List.setIfInBounds_toArray, List.set_cons_zero, List.set_cons_succ]
          refine wpAnyH_take (i := 6) (v := undef) rfl (by kernel_rfl) (by kernel_rfl) (by kernel_rfl) (fun _ _ _ h => h) (.inr ⟨by rfl, rfl⟩) (by assumption) ?_
          simp only [Act.put, List.getElem_toArray, List.getElem_cons_zero, List.getElem_cons_succ, List.setIfInBounds_toArray, List.set_cons_zero, List.set_cons_succ]
          refine wpAnyH_take (i := 7) (v := .bool true) rfl (by kernel_rfl) (by kernel_rfl) (by kernel_rfl) (fun _ _ _ h => h) (.inl ⟨by rfl, ?_⟩) (by assumption) ?_
          · intro w0 hSw
            obtain ⟨z0, z1, z2, z3, z4, z5, -⟩ := hSw
            go_simp
          simp only [Act.put, List.getElem_toArray, List.getElem_cons_zero, List.getElem_cons_succ, List.setIfInBounds_toArray, List.set_cons_zero, List.set_cons_succ]
          refine wpAnyH_take (i := 8) (v := .bool true) rfl (by kernel_rfl) (by kernel_rfl) (by kernel_rfl) (fun _ _ _ h => h) (.inl ⟨by rfl, ?_⟩) (by assumption) ?_
          · intro w0 hSw
            obtain ⟨z0, z1, z2, z3, z4, z5, -⟩ := hSw
            go_simp
          simp only [Act.put, List.getElem_toArray, List.getElem_cons_zero, List.getElem_cons_succ, List.setIfInBounds_toArray, List.set_cons_zero, List.set_cons_succ]
          refine wpAnyH_take (i := 9) (v := .bool true) rfl (by kernel_rfl) (by kernel_rfl) (by kernel_rfl) (fun _ _ _ h => h) (.inl ⟨by rfl, ?_⟩) (by assumption) ?_
          · intro w0 hSw
            obtain ⟨z0, z1, z2, z3, z4, z5, -⟩ := hSw
            go_simp
          simp only [Act.put, List.getElem_toArray, List.getElem_cons_zero, List.getElem_cons_succ, List.setIfInBounds_toArray, List.set_cons_zero, List.set_cons_succ]
          refine wpAnyH_take (i := 10) (v := .agg #[.bool x.isList, .string ⟨x.text.toArray⟩, .slice p x.list.length c]) rfl (by kernel_rfl) (by kernel_rfl) (by kernel_rfl) (fun _ _ _ h => h) (.inl ⟨by rfl, ?_⟩) (by assumption) ?_
          · intro w0 hSw
            obtain ⟨z0, z1, z2, z3, z4, z5, -⟩ := hSw
            go_simp
          simp only [Act.put, List.getElem_toArray, List.getElem_cons_zero, List.getElem_cons_succ, List.setIfInBounds_toArray, List.set_cons_zero, List.set_cons_succ]
          refine wpAnyH_take (i := 11) (v := .agg #[.bool x.isList, .string ⟨x.text.toArray⟩, .slice p x.list.length c]) rfl (by kernel_rfl) (by kernel_rfl) (by kernel_rfl) (fun _ _ _ h => h) (.inl ⟨by rfl, ?_⟩) (by assumption) ?_
          · intro w0 hSw
            obtain ⟨z0, z1, z2, z3, z4, z5, -⟩ := hSw
            go_simp
          simp only [Act.put, List.getElem_toArray, List.getElem_cons_zero, List.getElem_cons_succ, List.setIfInBounds_toArray, List.set_cons_zero, List.set_cons_succ]
          refine wpAnyH_ready (rs := [12]) (by kernel_rfl) (by simp) ?_
          refine AllReadyH.cons rfl (fun K hK => ?_) AllReadyH.nil
          go_simp
          (go_at_call 34; (first | (with_reducible refine (H3.out _ ?_).mono ?_) | (with_reducible refine (H4.out _ ?_).mono ?_) | (with_reducible refine (H7.out _ ?_).mono ?_)); assumption; rintro e w' ⟨rfl, hb'⟩)
          refine hK.out _ _ (two_next (by assumption) hb') (fun hHeld => ?_)
          clear hK K
          try simp only [Act.put, List.getElem_toArray, List.getElem_cons_zero, List.getElem_cons_succ, List.setIfInBounds_toArray, List.set_cons_zero, List.set_cons_succ]
          refine wpAnyH_take (i := 13) (v := .bool true) rfl (by kernel_rfl) (by kernel_rfl) (by kernel_rfl) (fun _ _ _ h => h) (.inl ⟨by rfl, ?_⟩) (by assumption) ?_
          · intro w0 hSw
            obtain ⟨z0, z1, z2, z3, z4, z5, -⟩ := hSw
            go_simp
          simp only [Act.put, List.getElem_toArray, List.getElem_cons_zero, List.getElem_cons_succ, List.setIfInBounds_toArray, List.set_cons_zero, List.set_cons_succ]
          refine wpAnyH_take (i := 14) (v := .bool true) rfl (by kernel_rfl) (by kernel_rfl) (by kernel_rfl) (fun _ _ _ h => h) (.inl ⟨by rfl, ?_⟩) (by assumption) ?_
          · intro w0 hSw
            obtain ⟨z0, z1, z2, z3, z4, z5, -⟩ := hSw
            go_simp
          simp only [Act.put, List.getElem_toArray, List.getElem_cons_zero, List.getElem_cons_succ, List.setIfInBounds_toArray, List.set_cons_zero, List.set_cons_succ]
          refine wpAnyH_take (i := 15) (v := .agg #[.bool x.isList, .string ⟨x.text.toArray⟩, .slice p x.list.length c]) rfl (by kernel_rfl) (by kernel_rfl) (by kernel_rfl) (fun _ _ _ h => h) (.inl ⟨by rfl, ?_⟩) (by assumption) ?_
          · intro w0 hSw
            obtain ⟨z0, z1, z2, z3, z4, z5, -⟩ := hSw
            go_simp
          simp only [Act.put, List.getElem_toArray, List.getElem_cons_zero, List.getElem_cons_succ, List.setIfInBounds_toArray, List.set_cons_zero, List.set_cons_succ]
          refine wpAnyH_take (i := 16) (v := .agg #[.bool y.isList, .string ⟨y.text.toArray⟩, .slice p2 y.list.length c2]) rfl (by kernel_rfl) (by kernel_rfl) (by kernel_rfl) (fun _ _ _ h => h) (.inl ⟨by rfl, ?_⟩) (by assumption) ?_
          · intro w0 hSw
            obtain ⟨z0, z1, z2, z3, z4, z5, -⟩ := hSw
            go_simp
          simp only [Act.put, List.getElem_toArray, List.getElem_cons_zero, List.getElem_cons_succ, List.setIfInBounds_toArray, List.set_cons_zero, List.set_cons_succ]
          refine wpAnyH_take (i := 18) (v := .agg #[.bool y.isList, .string ⟨y.text.toArray⟩, .slice p2 y.list.length c2]) rfl (by kernel_rfl) (by kernel_rfl) (by kernel_rfl) (fun _ _ _ h => h) (.inl ⟨by rfl, ?_⟩) (by assumption) ?_
          · intro w0 hSw
            obtain ⟨z0, z1, z2, z3, z4, z5, -⟩ := hSw
            go_simp
          simp only [Act.put, List.getElem_toArray, List.getElem_cons_zero, List.getElem_cons_succ, List.setIfInBounds_toArray, List.set_cons_zero, List.set_cons_succ]
          refine wpAnyH_take (i := 19) (v := .agg #[.bool x.isList, .string ⟨x.text.toArray⟩, .slice p x.list.length c]) rfl (by kernel_rfl) (by kernel_rfl) (by kernel_rfl) (fun _ _ _ h => h) (.inl ⟨by rfl, ?_⟩) (by assumption) ?_
          · intro w0 hSw
            obtain ⟨z0, z1, z2, z3, z4, z5, -⟩ := hSw
            go_simp
          simp only [Act.put, List.getElem_toArray, List.getElem_cons_zero, List.getElem_cons_succ, List.setIfInBounds_toArray, List.set_cons_zero, List.set_cons_succ]
          refine wpAnyH_ready (rs := [17]) (by kernel_rfl) (by simp) ?_
          refine AllReadyH.cons rfl (fun K hK => ?_) AllReadyH.nil
          go_simp
          (go_at_call 34; (first | (with_reducible refine (H3.out _ ?_).mono ?_) | (with_reducible refine (H4.out _ ?_).mono ?_) | (with_reducible refine (H7.out _ ?_).mono ?_)); assumption; rintro e w' ⟨rfl, hb'⟩)
          refine hK.out _ _ (two_next (by assumption) hb') (fun hHeld => ?_)
          clear hK K
          try simp only [Act.put, List.getElem_toArray, List.getElem_cons_zero, List.getElem_cons_succ, List.setIfInBounds_toArray, List.set_cons_zero, List.set_cons_succ]
          refine wpAnyH_ready (rs := [20]) (by kernel_rfl) (by simp) ?_
          refine AllReadyH.cons rfl (fun K hK => ?_) AllReadyH.nil
          go_simp
          (go_at_call 34; (first | (with_reducible refine (H3.out _ ?_).mono ?_) | (with_reducible refine (H4.out _ ?_).mono ?_) | (with_reducible refine (H7.out _ ?_).mono ?_)); assumption; rintro e w' ⟨rfl, hb'⟩)
          refine hK.out _ _ (two_next (by assumption) hb') (fun hHeld => ?_)
          clear hK K
          try simp only [Act.put, List.getElem_toArray, List.getElem_cons_zero, List.getElem_cons_succ, List.setIfInBounds_toArray, List.set_cons_zero, List.set_cons_succ]
          refine wpAnyH_take (i := 21) (v := .bool true) rfl (by kernel_rfl) (by kernel_rfl) (by kernel_rfl) (fun _ _ _ h => h) (.inl ⟨by rfl, ?_⟩) (by assumption) ?_
          · intro w0 hSw
            obtain ⟨z0, z1, z2, z3, z4, z5, -⟩ := hSw
            go_simp
          simp only [Act.put, List.getElem_toArray, List.getElem_cons_zero, List.getElem_cons_succ, List.setIfInBounds_toArray, List.set_cons_zero, List.set_cons_succ]
          refine wpAnyH_take (i := 22) (v := .bool true) rfl (by kernel_rfl) (by kernel_rfl) (by kernel_rfl) (fun _ _ _ h => h) (.inl ⟨by rfl, ?_⟩) (by assumption) ?_
          · intro w0 hSw
            obtain ⟨z0, z1, z2, z3, z4, z5, -⟩ := hSw
            go_simp
          simp only [Act.put, List.getElem_toArray, List.getElem_cons_zero, List.getElem_cons_succ, List.setIfInBounds_toArray, List.set_cons_zero, List.set_cons_succ]
          refine wpAnyH_take (i := 23) (v := .bool true) rfl (by kernel_rfl) (by kernel_rfl) (by kernel_rfl) (fun _ _ _ h => h) (.inl ⟨by rfl, ?_⟩) (by assumption) ?_
          · intro w0 hSw
            obtain ⟨z0, z1, z2, z3, z4, z5, -⟩ := hSw
            go_simp
          simp only [Act.put, List.getElem_toArray, List.getElem_cons_zero, List.getElem_cons_succ, List.setIfInBounds_toArray, List.set_cons_zero, List.set_cons_succ]
          refine wpAnyH_done (by kernel_rfl) ?_ 0
          rename_i hHeld
          have hR := hHeld.2.2.2.2.2.2
          go_wp2
          go_ret
          exact ⟨ret_true (by simp), hR⟩
end Go.Proofs.YtjccllfgendpdaaDoor
