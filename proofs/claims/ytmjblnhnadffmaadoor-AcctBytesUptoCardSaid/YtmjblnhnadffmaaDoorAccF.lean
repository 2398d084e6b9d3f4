/- Contract of acct.Bytes. -/
import Derived.Test.YtmjblnhnadffmaaDoorAccE
import Derived.Test.YtmjblnhnadffmaaDoorWrdO
namespace Go.Proofs.YtmjblnhnadffmaaDoor
open Go.RowKit Go.Shelf Go.Lib

/-- an account's item -/
def acctItem (n b : Nat) (root code : List UInt8) : Item := .mk true [] [.mk false (num n) [], .mk false (shortW b) [], .mk false root [], .mk false code []]
/-- an account's bytes -/
def acctBytes (n b : Nat) (root code : List UInt8) : List UInt8 × Int := if root.length ≠ 32 ∨ code.length ≠ 32 then ([], 160) else (put (acctItem n b root code), 0)
theorem putText_len (t : List UInt8) (h : t.length < 56) : 1 ≤ (putText t).length ∧ (putText t).length ≤ t.length + 1 := by
  unfold putText
  split
  · rename_i h1; omega
  · unfold framed; rw [if_pos h]; simp
theorem putText_32 (t : List UInt8) (h : t.length = 32) : (putText t).length = 33 := by
  unfold putText
  rw [if_neg (by omega)]
  unfold framed; rw [if_pos (by omega)]; simp [h]
theorem put_lst (L : List Item) : put (.mk true [] L) = framed (putAll L) 192 := put_list (by rfl)
theorem put_txt (t : List UInt8) : put (.mk false t []) = putText t := put_text (by rfl)
theorem framed_mid {l : List UInt8} (h1 : 56 ≤ l.length) (h2 : l.length < 256) (b : Nat) : (framed l b).length = l.length + 2 := by
  have h3 : (num l.length).length = 1 := by
    rw [← be_num (n := l.length) (k := 1) (by omega) (by rw [Nat.pow_one]; omega) (.inr (by rw [Nat.sub_self, Nat.pow_zero, Nat.div_one]; omega)), be_length]
  unfold framed
  rw [if_neg (by omega), List.length_cons, List.length_append, h3]
  omega
theorem acct_put (n b : Nat) {root code : List UInt8} (hr : root.length = 32) (hc : code.length = 32) : 66 < (put (acctItem n b root code)).length ∧ (put (acctItem n b root code)).length ≤ 112 := by
  have e : put (acctItem n b root code) = framed (putText (num n) ++ (putText (shortW b) ++ (putText root ++ (putText code ++ [])))) 192 := by
    unfold acctItem
    rw [put_lst]
    simp only [putAll, put_txt]
  have h1 := putText_len (num n) (by have := num_length n; omega)
  have h2 := putText_len (shortW b) (by have := shortW_length b; omega)
  have h3 := putText_32 root hr
  have h4 := putText_32 code hc
  have h5 := num_length n
  have h6 := shortW_length b
  rw [e]
  clear e
  generalize putText (num n) = A at *
  generalize putText (shortW b) = B at *
  generalize putText root = C at *
  generalize putText code = D at *
  have hl : (A ++ (B ++ (C ++ (D ++ [])))).length = A.length + B.length + 66 := by
    simp only [List.length_append, List.length_nil]; omega
  rw [framed_mid (by omega) (by omega), hl]
  omega
theorem acct_encode (n b : Nat) {root code : List UInt8} (hr : root.length = 32) (hc : code.length = 32) : encode (acctItem n b root code) = (put (acctItem n b root code), 0) :=
  encode_good (by rfl) (by rfl) (by have := acct_put n b hr hc; omega)
theorem acct_size (n b : Nat) (root code : List UInt8) : (acctItem n b root code).size = 5 := rfl

set_option maxRecDepth 100000 in
/-- Encode of a list of four texts that was just laid -/
theorem encode4 {wk wl : World} {nl sl : List UInt8} {root code : ByteArray} {pl : List UInt8}
    (hb : Below (wk.alloc (.cells #[.bool false, .string ⟨nl.toArray⟩, .slice none 0 0, .bool false, .string ⟨sl.toArray⟩, .slice none 0 0, .bool false, .string root, .slice none 0 0, .bool false, .string code, .slice none 0 0] 51)).heap.size (wk.alloc (.cells #[.bool false, .string ⟨nl.toArray⟩, .slice none 0 0, .bool false, .string ⟨sl.toArray⟩, .slice none 0 0, .bool false, .string root, .slice none 0 0, .bool false, .string code, .slice none 0 0] 51)) wl)
    (he : encode (.mk true [] [.mk false nl [], .mk false sl [], .mk false root.data.toList [], .mk false code.data.toList []]) = (pl, 0))
    (hp : (put (.mk true [] [.mk false nl [], .mk false sl [], .mk false root.data.toList [], .mk false code.data.toList []])).length ≤ 1099511627776) :
    Calls Tryd.prog 29 #[.agg #[.bool true, .string ⟨#[]⟩, .slice (some ⟨wk.heap.size, 0, none⟩) 4 4]] wl fun e w' => e = .returned (.tuple #[.string ⟨pl.toArray⟩, .int .i64 0]) ∧ Below wl.heap.size wl w' := by
  have h0 := fun j u hu => (hb.cell (p := ⟨wk.heap.size, j, none⟩) (by simp)).trans (cells_at wk [.bool false, .string ⟨nl.toArray⟩, .slice none 0 0, .bool false, .string ⟨sl.toArray⟩, .slice none 0 0, .bool false, .string root, .slice none 0 0, .bool false, .string code, .slice none 0 0] 51 j u hu)
  have hrd : Reads wl wl.heap.size (.slice (some ⟨wk.heap.size, 0, none⟩) 4 4) [.mk false nl [], .mk false sl [], .mk false root.data.toList [], .mk false code.data.toList []] := by
    refine Reads.mk (xs := [.mk false nl [], .mk false sl [], .mk false root.data.toList [], .mk false code.data.toList []]) (cap := 4) (hl := by simp) (by have := hb.size; simp at this; omega) (fun i x hx => ?_)
    match i, hx with
    | 0, hx => cases hx; exact ⟨h0 0 _ rfl, h0 1 _ rfl, _, h0 2 _ rfl, Reads.nil _ _⟩
    | 1, hx => cases hx; exact ⟨h0 3 _ rfl, h0 4 _ rfl, _, h0 5 _ rfl, Reads.nil _ _⟩
    | 2, hx => cases hx; exact ⟨h0 6 _ rfl, h0 7 _ rfl, _, h0 8 _ rfl, Reads.nil _ _⟩
    | 3, hx => cases hx; exact ⟨h0 9 _ rfl, h0 10 _ rfl, _, h0 11 _ rfl, Reads.nil _ _⟩
  have := encode_any (.mk true [] [.mk false nl [], .mk false sl [], .mk false root.data.toList [], .mk false code.data.toList []]) _ wl (by simp [Item.size, sizeAll]) hp hrd
  unfold encodeV at this
  rw [he] at this
  exact this

set_option maxRecDepth 100000 in
set_option maxHeartbeats 3200000 in
theorem acctBytes_any (n b : Nat) (root code : ByteArray) (w : World) (hn : n < 18446744073709551616) :
    Calls Tryd.prog 13 #[acctV n b root code] w fun e w' => e = .returned (.tuple #[.string ⟨(acctBytes n b root.data.toList code.data.toList).1.toArray⟩, .int .i64 (acctBytes n b root.data.toList code.data.toList).2]) ∧ Below w.heap.size w w' := by
  have hrl : root.data.toList.length = root.size := rfl
  have hcl : code.data.toList.length = code.size := rfl
  have HH := Lib.hid (fun W => short_any b W)
  have hd : ∃ x0 x1 x2 x3 : Nat, wordV b = .agg #[.int .u64 x0, .int .u64 x1, .int .u64 x2, .int .u64 x3] ∧ acctV n b root code = .agg #[.int .u64 n, .int .u64 x0, .int .u64 x1, .int .u64 x2, .int .u64 x3, .string root, .string code] :=
    ⟨limb b 0, limb b 1, limb b 2, limb b 3, rfl, rfl⟩
  obtain ⟨x0, x1, x2, x3, hw, ha⟩ := hd
  rw [hw] at HH
  rw [ha]
  by_cases hr : root.size = 32
  · by_cases hc : code.size = 32
    · have hE := acct_encode n b (root := root.data.toList) (code := code.data.toList) (by omega) (by omega)
      have hP := (acct_put n b (root := root.data.toList) (code := code.data.toList) (by omega) (by omega)).2
      have e1 : acctBytes n b root.data.toList code.data.toList = (put (acctItem n b root.data.toList code.data.toList), 0) := by unfold acctBytes; rw [if_neg (by omega)]
      rw [e1]
      unfold acctItem at hE hP ⊢
      obtain ⟨nl, hnl⟩ : ∃ l, num n = l := ⟨_, rfl⟩
      obtain ⟨sl, hsl⟩ : ∃ l, shortW b = l := ⟨_, rfl⟩
      have HN := Lib.hid (fun W => number_lit n hnl hn W)
      rw [hsl] at HH
      rw [hnl, hsl] at hE hP ⊢
      obtain ⟨pl, hpl⟩ : ∃ l, put (.mk true [] [.mk false nl [], .mk false sl [], .mk false root.data.toList [], .mk false code.data.toList []]) = l := ⟨_, rfl⟩
      rw [hpl] at hE ⊢
      have HE := Lib.hid (And.intro hE (show (put (.mk true [] [.mk false nl [], .mk false sl [], .mk false root.data.toList [], .mk false code.data.toList []])).length ≤ 1099511627776 by omega))
      have h1 : ((root.size : Int) != 32) = false := by rw [hr]; rfl
      have h2 : ((code.size : Int) != 32) = false := by rw [hc]; rfl
      clear hE hP e1 hnl hsl hpl hw ha hrl hcl hr hc hn
      go_enter Tryd.func13, Tryd.ntmps13
      go_wp2_with fail
      obtain ⟨w3, hw3⟩ : ∃ w3, w.alloc (.cells #[.int .u64 n, .int .u64 x0, .int .u64 x1, .int .u64 x2, .int .u64 x3, .string root, .string code] 32) = w3 := ⟨_, rfl⟩
      have HB3 := Lib.hid (laid1 w (.cells #[.int .u64 n, .int .u64 x0, .int .u64 x1, .int .u64 x2, .int .u64 x3, .string root, .string code] 32))
      have hc0 := cells_at w [.int .u64 n, .int .u64 x0, .int .u64 x1, .int .u64 x2, .int .u64 x3, .string root, .string code] 32
      have hk : w.heap.size < (w.alloc (.cells #[.int .u64 n, .int .u64 x0, .int .u64 x1, .int .u64 x2, .int .u64 x3, .string root, .string code] 32)).heap.size := by simp
      rw [hw3] at HB3 hc0 hk ⊢
      have HS := Lib.hid (fun W' (hb : Below w3.heap.size w3 W') => (show W'.cell? ⟨w.heap.size, 0, none⟩ = some (.int .u64 n) ∧ W'.cell? ⟨w.heap.size, 1, none⟩ = some (.int .u64 x0) ∧ W'.cell? ⟨w.heap.size, 2, none⟩ = some (.int .u64 x1) ∧ W'.cell? ⟨w.heap.size, 3, none⟩ = some (.int .u64 x2) ∧ W'.cell? ⟨w.heap.size, 4, none⟩ = some (.int .u64 x3) ∧ W'.cell? ⟨w.heap.size, 5, none⟩ = some (.string root) ∧ W'.cell? ⟨w.heap.size, 6, none⟩ = some (.string code) from
        ⟨(hb.cell (p := ⟨w.heap.size, 0, none⟩) hk).trans (hc0 0 _ rfl), (hb.cell (p := ⟨w.heap.size, 1, none⟩) hk).trans (hc0 1 _ rfl), (hb.cell (p := ⟨w.heap.size, 2, none⟩) hk).trans (hc0 2 _ rfl), (hb.cell (p := ⟨w.heap.size, 3, none⟩) hk).trans (hc0 3 _ rfl), (hb.cell (p := ⟨w.heap.size, 4, none⟩) hk).trans (hc0 4 _ rfl), (hb.cell (p := ⟨w.heap.size, 5, none⟩) hk).trans (hc0 5 _ rfl), (hb.cell (p := ⟨w.heap.size, 6, none⟩) hk).trans (hc0 6 _ rfl)⟩))
      clear hw3 hc0 hk
      have b3 : Below w3.heap.size w3 w3.drew := (Below.refl _ _).drew
      refine wp_region_held_drew (S := (fun w' => w'.cell? ⟨w.heap.size, 0, none⟩ = some (.int .u64 n) ∧ w'.cell? ⟨w.heap.size, 1, none⟩ = some (.int .u64 x0) ∧ w'.cell? ⟨w.heap.size, 2, none⟩ = some (.int .u64 x1) ∧ w'.cell? ⟨w.heap.size, 3, none⟩ = some (.int .u64 x2) ∧ w'.cell? ⟨w.heap.size, 4, none⟩ = some (.int .u64 x3) ∧ w'.cell? ⟨w.heap.size, 5, none⟩ = some (.string root) ∧ w'.cell? ⟨w.heap.size, 6, none⟩ = some (.string code))) (by kernel_rfl) (HS.out _ b3) (fun hHeld => ?_)
      refine wpAnyH_take (i := 0) (v := .pointer (some ⟨w.heap.size, 0, none⟩)) rfl (by kernel_rfl) (by kernel_rfl) (by kernel_rfl) (fun _ _ _ h => h) (.inl ⟨by rfl, ?_⟩) (by assumption) ?_
      · intro w0 hSw
        go_simp
      simp only [Act.put, List.getElem_toArray, List.getElem_cons_zero, List.setIfInBounds_toArray, List.set_cons_zero, List.set_cons_succ]
      refine wpAnyH_take (i := 1) (v := .int .u64 n) rfl (by kernel_rfl) (by kernel_rfl) (by kernel_rfl) (fun _ _ _ h => h) (.inl ⟨by rfl, ?_⟩) (by assumption) ?_
      · intro w0 hSw
        obtain ⟨z0, z1, z2, z3, z4, z5, z6⟩ := hSw
        go_simp
      simp only [Act.put, List.getElem_toArray, List.getElem_cons_zero, List.getElem_cons_succ, List.setIfInBounds_toArray, List.set_cons_zero, List.set_cons_succ]
      refine wpAnyH_take (i := 4) (v := .pointer (some ⟨w.heap.size, 1, none⟩)) rfl (by kernel_rfl) (by kernel_rfl) (by kernel_rfl) (fun _ _ _ h => h) (.inl ⟨by rfl, ?_⟩) (by assumption) ?_
      · intro w0 hSw
        go_simp
      simp only [Act.put, List.getElem_toArray, List.getElem_cons_zero, List.getElem_cons_succ, List.setIfInBounds_toArray, List.set_cons_zero, List.set_cons_succ]
      refine wpAnyH_take (i := 5) (v := .agg #[.int .u64 x0, .int .u64 x1, .int .u64 x2, .int .u64 x3]) rfl (by kernel_rfl) (by kernel_rfl) (by kernel_rfl) (fun _ _ _ h => h) (.inl ⟨by rfl, ?_⟩) (by assumption) ?_
      · intro w0 hSw
        obtain ⟨z0, z1, z2, z3, z4, z5, z6⟩ := hSw
        go_simp
      simp only [Act.put, List.getElem_toArray, List.getElem_cons_zero, List.getElem_cons_succ, List.setIfInBounds_toArray, List.set_cons_zero, List.set_cons_succ]
      refine wpAnyH_take (i := 8) (v := .pointer (some ⟨w.heap.size, 5, none⟩)) rfl (by kernel_rfl) (by kernel_rfl) (by kernel_rfl) (fun _ _ _ h => h) (.inl ⟨by rfl, ?_⟩) (by assumption) ?_
      · intro w0 hSw
        go_simp
      simp only [Act.put, List.getElem_toArray, List.getElem_cons_zero, List.getElem_cons_succ, List.setIfInBounds_toArray, List.set_cons_zero, List.set_cons_succ]
      refine wpAnyH_take (i := 9) (v := .string root) rfl (by kernel_rfl) (by kernel_rfl) (by kernel_rfl) (fun _ _ _ h => h) (.inl ⟨by rfl, ?_⟩) (by assumption) ?_
      · intro w0 hSw
        obtain ⟨z0, z1, z2, z3, z4, z5, z6⟩ := hSw
        go_simp
      simp only [Act.put, List.getElem_toArray, List.getElem_cons_zero, List.getElem_cons_succ, List.setIfInBounds_toArray, List.set_cons_zero, List.set_cons_succ]
      refine wpAnyH_take (i := 11) (v := .pointer (some ⟨w.heap.size, 6, none⟩)) rfl (by kernel_rfl) (by kernel_rfl) (by kernel_rfl) (fun _ _ _ h => h) (.inl ⟨by rfl, ?_⟩) (by assumption) ?_
      · intro w0 hSw
        go_simp
      simp only [Act.put, List.getElem_toArray, List.getElem_cons_zero, List.getElem_cons_succ, List.setIfInBounds_toArray, List.set_cons_zero, List.set_cons_succ]
      refine wpAnyH_take (i := 12) (v := .string code) rfl (by kernel_rfl) (by kernel_rfl) (by kernel_rfl) (fun _ _ _ h => h) (.inl ⟨by rfl, ?_⟩) (by assumption) ?_
      · intro w0 hSw
        obtain ⟨z0, z1, z2, z3, z4, z5, z6⟩ := hSw
        go_simp
      simp only [Act.put, List.getElem_toArray, List.getElem_cons_zero, List.getElem_cons_succ, List.setIfInBounds_toArray, List.set_cons_zero, List.set_cons_succ]
      refine wpAnyH_ready (rs := [2]) (by kernel_rfl) (by simp) ?_
      refine AllReadyH.cons rfl (fun K hK => ?_) AllReadyH.nil
      go_simp
      go_at_call 36
      refine (HN.out _).mono ?_
      rintro e w4 ⟨rfl, hb4⟩
      have b4 := b3.trans (hb4.mono b3.size)
      refine hK.out _ _ (HS.out _ b4) (fun hHeld => ?_)
      clear hK K
      try simp only [Act.put, List.getElem_toArray, List.getElem_cons_zero, List.getElem_cons_succ, List.setIfInBounds_toArray, List.set_cons_zero, List.set_cons_succ]
      refine wpAnyH_ready (rs := [3]) (by kernel_rfl) (by simp) ?_
      refine AllReadyH.cons rfl (fun K hK => ?_) AllReadyH.nil
      go_simp
      go_at_call 30
      refine (text_any _ _).mono ?_
      rintro e w5 ⟨rfl, hb5⟩
      have b5 := b4.trans (hb5.mono b4.size)
      refine hK.out _ _ (HS.out _ b5) (fun hHeld => ?_)
      clear hK K
      try simp only [Act.put, List.getElem_toArray, List.getElem_cons_zero, List.getElem_cons_succ, List.setIfInBounds_toArray, List.set_cons_zero, List.set_cons_succ]
      refine wpAnyH_ready (rs := [6]) (by kernel_rfl) (by simp) ?_
      refine AllReadyH.cons rfl (fun K hK => ?_) AllReadyH.nil
      go_simp
      go_at_call 31
      refine (HH.out _).mono ?_
      rintro e w6 ⟨rfl, hb6⟩
      have b6 := b5.trans (hb6.mono b5.size)
      refine hK.out _ _ (HS.out _ b6) (fun hHeld => ?_)
      clear hK K
      try simp only [Act.put, List.getElem_toArray, List.getElem_cons_zero, List.getElem_cons_succ, List.setIfInBounds_toArray, List.set_cons_zero, List.set_cons_succ]
      refine wpAnyH_ready (rs := [7]) (by kernel_rfl) (by simp) ?_
      refine AllReadyH.cons rfl (fun K hK => ?_) AllReadyH.nil
      go_simp
      go_at_call 30
      refine (text_any _ _).mono ?_
      rintro e w7 ⟨rfl, hb7⟩
      have b7 := b6.trans (hb7.mono b6.size)
      refine hK.out _ _ (HS.out _ b7) (fun hHeld => ?_)
      clear hK K
      try simp only [Act.put, List.getElem_toArray, List.getElem_cons_zero, List.getElem_cons_succ, List.setIfInBounds_toArray, List.set_cons_zero, List.set_cons_succ]
      refine wpAnyH_ready (rs := [10]) (by kernel_rfl) (by simp) ?_
      refine AllReadyH.cons rfl (fun K hK => ?_) AllReadyH.nil
      go_simp
      go_at_call 30
      refine (text_any _ _).mono ?_
      rintro e w8 ⟨rfl, hb8⟩
      have b8 := b7.trans (hb8.mono b7.size)
      refine hK.out _ _ (HS.out _ b8) (fun hHeld => ?_)
      clear hK K
      try simp only [Act.put, List.getElem_toArray, List.getElem_cons_zero, List.getElem_cons_succ, List.setIfInBounds_toArray, List.set_cons_zero, List.set_cons_succ]
      refine wpAnyH_ready (rs := [13]) (by kernel_rfl) (by simp) ?_
      refine AllReadyH.cons rfl (fun K hK => ?_) AllReadyH.nil
      go_simp
      go_at_call 30
      refine (text_any _ _).mono ?_
      rintro e w9 ⟨rfl, hb9⟩
      have b9 := b8.trans (hb9.mono b8.size)
      refine hK.out _ _ (HS.out _ b9) (fun hHeld => ?_)
      clear hK K
      try simp only [Act.put, List.getElem_toArray, List.getElem_cons_zero, List.getElem_cons_succ, List.setIfInBounds_toArray, List.set_cons_zero, List.set_cons_succ]
      refine wpAnyH_ready (rs := [14]) (by kernel_rfl) (by simp) ?_
      refine AllReadyH.cons rfl (fun K hK => ?_) AllReadyH.nil
      go_simp
      have b10 := b9.alloc b9.size (.cells #[.bool false, .string ⟨nl.toArray⟩, .slice none 0 0, .bool false, .string ⟨sl.toArray⟩, .slice none 0 0, .bool false, .string root, .slice none 0 0, .bool false, .string code, .slice none 0 0] 51)
      refine hK.out _ _ (HS.out _ b10) (fun hHeld => ?_)
      clear hK K
      try simp only [Act.put, List.getElem_toArray, List.getElem_cons_zero, List.getElem_cons_succ, List.setIfInBounds_toArray, List.set_cons_zero, List.set_cons_succ]
      refine wpAnyH_ready (rs := [15]) (by kernel_rfl) (by simp) ?_
      refine AllReadyH.cons rfl (fun K hK => ?_) AllReadyH.nil
      go_simp
      go_at_call 35
      refine (list_any _ _ _ _).mono ?_
      rintro e w11 ⟨rfl, hb11⟩
      have b11 := b10.trans (hb11.mono b10.size)
      refine hK.out _ _ (HS.out _ b11) (fun hHeld => ?_)
      clear hK K
      try simp only [Act.put, List.getElem_toArray, List.getElem_cons_zero, List.getElem_cons_succ, List.setIfInBounds_toArray, List.set_cons_zero, List.set_cons_succ]
      have hE := Lib.hid (encode4 hb11 HE.out.1 HE.out.2)
      clear hb11
      refine wpAnyH_ready (rs := [16]) (by kernel_rfl) (by simp) ?_
      refine AllReadyH.cons rfl (fun K hK => ?_) AllReadyH.nil
      go_simp
      go_at_call 29
      refine (hE.out).mono ?_
      rintro e w12 ⟨rfl, hb12⟩
      have b12 := b11.trans (hb12.mono b11.size)
      refine hK.out _ _ (HS.out _ b12) (fun hHeld => ?_)
      clear hK K
      try simp only [Act.put, List.getElem_toArray, List.getElem_cons_zero, List.getElem_cons_succ, List.setIfInBounds_toArray, List.set_cons_zero, List.set_cons_succ]
      refine wpAnyH_take (i := 17) (v := .string ⟨pl.toArray⟩) rfl (by kernel_rfl) (by kernel_rfl) (by kernel_rfl) (fun _ _ _ h => h) (.inl ⟨by rfl, ?_⟩) (by assumption) ?_
      · intro w0 hSw
        go_simp
      simp only [Act.put, List.getElem_toArray, List.getElem_cons_zero, List.getElem_cons_succ, List.setIfInBounds_toArray, List.set_cons_zero, List.set_cons_succ]
      refine wpAnyH_take (i := 18) (v := .int .i64 0) rfl (by kernel_rfl) (by kernel_rfl) (by kernel_rfl) (fun _ _ _ h => h) (.inl ⟨by rfl, ?_⟩) (by assumption) ?_
      · intro w0 hSw
        go_simp
      simp only [Act.put, List.getElem_toArray, List.getElem_cons_zero, List.getElem_cons_succ, List.setIfInBounds_toArray, List.set_cons_zero, List.set_cons_succ]
      refine wpAnyH_take (i := 19) (v := .string ⟨pl.toArray⟩) rfl (by kernel_rfl) (by kernel_rfl) (by kernel_rfl) (fun _ _ _ h => h) (.inl ⟨by rfl, ?_⟩) (by assumption) ?_
      · intro w0 hSw
        go_simp
      simp only [Act.put, List.getElem_toArray, List.getElem_cons_zero, List.getElem_cons_succ, List.setIfInBounds_toArray, List.set_cons_zero, List.set_cons_succ]
      refine wpAnyH_take (i := 20) (v := .int .i64 0) rfl (by kernel_rfl) (by kernel_rfl) (by kernel_rfl) (fun _ _ _ h => h) (.inl ⟨by rfl, ?_⟩) (by assumption) ?_
      · intro w0 hSw
        go_simp
      simp only [Act.put, List.getElem_toArray, List.getElem_cons_zero, List.getElem_cons_succ, List.setIfInBounds_toArray, List.set_cons_zero, List.set_cons_succ]
      refine wpAnyH_done (by kernel_rfl) ?_ 0
      go_wp2
      go_ret2
      exact ⟨rfl, HB3.out.trans (b12.mono HB3.out.size)⟩
    · have e1 : acctBytes n b root.data.toList code.data.toList = ([], 160) := by unfold acctBytes; rw [if_pos (.inr (by omega))]
      rw [e1]
      have h1 : ((root.size : Int) != 32) = false := by rw [hr]; rfl
      have h2 : ((code.size : Int) != 32) = true := by rw [bne_iff_ne]; omega
      clear hw ha hrl hcl hr hc hn e1
      go_enter Tryd.func13, Tryd.ntmps13
      go_wp2
      go_ret2
      exact ⟨rfl, laid1 w _⟩
  · have e1 : acctBytes n b root.data.toList code.data.toList = ([], 160) := by unfold acctBytes; rw [if_pos (.inl (by omega))]
    rw [e1]
    have h1 : ((root.size : Int) != 32) = true := by rw [bne_iff_ne]; omega
    clear hw ha hrl hcl hr hn e1
    go_enter Tryd.func13, Tryd.ntmps13
    go_wp2
    go_ret2
    exact ⟨rfl, laid1 w _⟩
end Go.Proofs.YtmjblnhnadffmaaDoor
