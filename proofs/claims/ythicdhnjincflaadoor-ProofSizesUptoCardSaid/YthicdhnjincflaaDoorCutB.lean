/- Contract of cut: the first item's inside, and what is behind it. -/
import Derived.Test.YthicdhnjincflaaDoorItmJ
import Derived.BigQuiet
namespace Go.Proofs.YthicdhnjincflaaDoor
open Go.RowKit Go.Shelf Go.Lib

theorem ext_mk (l : List UInt8) (a b : Nat) : (⟨l.toArray⟩ : ByteArray).extract a b = ⟨((l.take b).drop a).toArray⟩ := by
  apply ByteArray.ext
  apply Array.toList_inj.1
  rw [ByteArray.data_extract, Array.toList_extract, List.extract_eq_drop_take']

theorem results_tmp4 {fn : Func} {t u v x : Tmp} (h : fn.results = #[.tmp t, .tmp u, .tmp v, .tmp x]) (tmps : Array Value) (P : Program) (w : World) :
    (results fn tmps).run P w = .ok (.tuple #[tmps.getD t undef, tmps.getD u undef, tmps.getD v undef, tmps.getD x undef]) w := by
  simp [results, h]
/-- what cut gives -/
def CutIs (l : List UInt8) (e : Ending) (w w' : World) : Prop :=
  ∃ (inn rest : List UInt8) (b ok : Bool), e = .returned (.tuple #[.string ⟨inn.toArray⟩, .bool b, .string ⟨rest.toArray⟩, .bool ok]) ∧ Hid (cut l = if ok then some (inn, b, rest) else Option.none) ∧ ∃ n, w' = w.drewN n

theorem cut_cons (c : UInt8) (r : List UInt8) : cut (c :: r) = if c.toNat < 128 then some ([c], false, r)
    else if (c.toNat - 128) % 64 > 55 then
      if (c.toNat - 128) % 64 - 55 > r.length then Option.none
      else if (value (r.take ((c.toNat - 128) % 64 - 55))).2 ≠ 0 ∨ (value (r.take ((c.toNat - 128) % 64 - 55))).1 < 56 then Option.none
      else if (value (r.take ((c.toNat - 128) % 64 - 55))).1 > (r.drop ((c.toNat - 128) % 64 - 55)).length then Option.none
      else some ((r.drop ((c.toNat - 128) % 64 - 55)).take (value (r.take ((c.toNat - 128) % 64 - 55))).1, decide (192 ≤ c.toNat), (r.drop ((c.toNat - 128) % 64 - 55)).drop (value (r.take ((c.toNat - 128) % 64 - 55))).1)
    else if (c.toNat - 128) % 64 > r.length then Option.none
    else if c.toNat < 192 ∧ (c.toNat - 128) % 64 = 1 ∧ (r.headD 0).toNat < 128 then Option.none
    else some (r.take ((c.toNat - 128) % 64), decide (192 ≤ c.toNat), r.drop ((c.toNat - 128) % 64)) := rfl

/-- a text of a byte and more, as the walk asks it -/
structure Txt (S : ByteArray) (c : UInt8) (r : List UInt8) : Prop where
  size : S.size = r.length + 1
  ne : S.toList.isEmpty = false
  at0 : ∀ h, S[0]'h = c
  one : S.extract 0 1 = ⟨#[c]⟩
  rest : S.extract 1 (r.length + 1) = ⟨r.toArray⟩
theorem txt (c : UInt8) (r : List UInt8) : Txt ⟨(c :: r).toArray⟩ c r := by
  have hsz : (⟨(c :: r).toArray⟩ : ByteArray).size = r.length + 1 := by rw [size_mk]; rfl
  refine ⟨hsz, ?_, fun _ => rfl, ?_, ?_⟩
  · cases h : (⟨(c :: r).toArray⟩ : ByteArray).toList.isEmpty with
    | false => rfl
    | true =>
      exfalso
      have h2 := List.isEmpty_iff.1 h
      rw [ByteArray.toList_eq] at h2
      simp at h2
  · rw [ext_mk]; rfl
  · rw [ext_mk]; simp

set_option maxRecDepth 100000 in
set_option maxHeartbeats 1600000 in
theorem cut_low (c : UInt8) (r : List UInt8) (S : ByteArray) (hS : Txt S c r) (w : World) (hlen : r.length ≤ 1099511627776) (hc : c.toNat < 128) :
    Calls Tryd.prog 143 #[.string S] w fun e w' => CutIs (c :: r) e w w' := by
  obtain ⟨hsz, hne, hat, e1, e2⟩ := hS
  have h0 : 0 < S.size := by omega
  have h1 : (c.toNat : Int) < 128 := by omega
  have H : Hid (cut (c :: r) = some ([c], false, r)) := Lib.hid (by rw [cut_cons, if_pos hc])
  clear hc
  go_enter Tryd.func143, Tryd.ntmps143
  go_wp2
  go_quiet (fail)
  go_wp2
  refine bodyPost_ret (results_tmp4 rfl _ _ _) rfl ?_
  exact ⟨[c], r, false, true, rfl, H, nq, rfl⟩

set_option maxRecDepth 100000 in
set_option maxHeartbeats 1600000 in
theorem cut_nil (w : World) : Calls Tryd.prog 143 #[.string ⟨#[]⟩] w fun e w' => CutIs [] e w w' := by
  go_enter Tryd.func143, Tryd.ntmps143
  go_wp2
  refine bodyPost_ret (results_tmp4 rfl _ _ _) rfl ?_
  exact ⟨[], [], false, false, rfl, Lib.hid rfl, 0, rfl⟩

theorem drewN_add (w : World) (a b : Nat) : (w.drewN a).drewN b = w.drewN (a + b) := by
  induction b generalizing w with
  | zero => rfl
  | succ b ih =>
    show ((w.drewN a).drewN b).drew = (w.drewN (a + b)).drew
    rw [ih]
theorem sub_form {c : UInt8} {k : Nat} (hc : ¬ c.toNat < 128) (h : (c.toNat - 128) % 64 = k) : ((c.toNat : Int) - 128) % 64 = (k : Int) := by omega

set_option maxRecDepth 100000 in
set_option maxHeartbeats 3200000 in
theorem cut_one (c b : UInt8) (r' : List UInt8) (S : ByteArray) (hS : Txt S c (b :: r')) (w : World) (hlen : r'.length + 1 ≤ 1099511627776) (hc : ¬ c.toNat < 128) (hke : (c.toNat - 128) % 64 = 1) (hls : ¬ 192 ≤ c.toNat) :
    Calls Tryd.prog 143 #[.string S] w fun e w' => CutIs (c :: b :: r') e w w' := by
  obtain ⟨hsz, hne, hat, e1, e2⟩ := hS
  have h0 : 0 < S.size := by omega
  have h1 : ¬ (c.toNat : Int) < 128 := by omega
  have h2 : (128 : Int) ≤ (c.toNat : Int) := by omega
  have h3 : ((c.toNat : Int) - 128) % 64 = 1 := sub_form hc hke
  have hcut : cut (c :: b :: r') = if b.toNat < 128 then Option.none else some ([b], false, r') := by
    rw [cut_cons, if_neg hc, hke, if_neg (by omega), if_neg (by simp)]
    simp only [List.headD_cons, true_and, decide_eq_false hls, List.take_succ_cons, List.take_zero, List.drop_succ_cons, List.drop_zero]
    by_cases hb : b.toNat < 128
    · rw [if_pos ⟨by omega, hb⟩, if_pos hb]
    · rw [if_neg (fun h => hb h.2), if_neg hb]
  have hd : decide ((192 : Int) ≤ (c.toNat : Int)) = false := by simp; omega
  have hR := txt b r'
  obtain ⟨R, hRe⟩ : ∃ R, (⟨(b :: r').toArray⟩ : ByteArray) = R := ⟨_, rfl⟩
  rw [hRe] at hR e2
  obtain ⟨rsz, rne, rat, e3, e4⟩ := hR
  have r0 : 0 < R.size := by omega
  have hgi : (⟨#[b]⟩ : ByteArray)[0]'(Nat.zero_lt_one) = b := rfl
  simp only [List.length_cons] at e2 hsz
  by_cases hb : b.toNat < 128
  · rw [if_pos hb] at hcut
    have hd2 : decide ((128 : Int) ≤ (b.toNat : Int)) = false := by simp; omega
    have H := Lib.hid hcut
    clear hcut hc hke hRe rne
    go_enter Tryd.func143, Tryd.ntmps143
    go_wp2
    go_quiet (fail)
    go_wp2
    go_quiet (fail)
    go_wp2
    refine bodyPost_ret (results_tmp4 rfl _ _ _) rfl ?_
    exact ⟨[b], r', false, false, rfl, H, _, drewN_add _ _ _⟩
  · rw [if_neg hb] at hcut
    have hd2 : decide ((128 : Int) ≤ (b.toNat : Int)) = true := by simp; omega
    have H := Lib.hid hcut
    clear hcut hc hke hRe rne
    go_enter Tryd.func143, Tryd.ntmps143
    go_wp2
    go_quiet (fail)
    go_wp2
    go_quiet (fail)
    go_wp2
    refine bodyPost_ret (results_tmp4 rfl _ _ _) rfl ?_
    exact ⟨[b], r', false, true, rfl, H, _, drewN_add _ _ _⟩

set_option maxRecDepth 100000 in
set_option maxHeartbeats 3200000 in
theorem cut_brief (c : UInt8) (r : List UInt8) (k : Nat) (S : ByteArray) (hS : Txt S c r) (w : World) (hlen : r.length ≤ 1099511627776) (hc : ¬ c.toNat < 128) (hke : (c.toNat - 128) % 64 = k) (hk : ¬ k > 55) :
    Calls Tryd.prog 143 #[.string S] w fun e w' => CutIs (c :: r) e w w' := by
  obtain ⟨hsz, hne, hat, e1, e2⟩ := hS
  have h0 : 0 < S.size := by omega
  have h1 : ¬ (c.toNat : Int) < 128 := by omega
  have h2 : (128 : Int) ≤ (c.toNat : Int) := by omega
  have h3 := sub_form hc hke
  have h4 : ¬ (55 : Int) < (k : Int) := by omega
  have hcut : cut (c :: r) = if k > r.length then Option.none else if c.toNat < 192 ∧ k = 1 ∧ (r.headD 0).toNat < 128 then Option.none else some (r.take k, decide (192 ≤ c.toNat), r.drop k) := by
    rw [cut_cons, if_neg hc, hke, if_neg hk]
  by_cases hl : k > r.length
  · rw [if_pos hl] at hcut
    have H := Lib.hid hcut
    have h5 : (r.length : Int) < (k : Int) := by omega
    clear hcut hc hke
    go_enter Tryd.func143, Tryd.ntmps143
    go_wp2
    refine bodyPost_ret (results_tmp4 rfl _ _ _) rfl ?_
    exact ⟨[], r, _, false, rfl, H, 0, rfl⟩
  · rw [if_neg hl] at hcut
    have h5 : ¬ (r.length : Int) < (k : Int) := by omega
    have e3 : (⟨r.toArray⟩ : ByteArray).extract 0 k = ⟨(r.take k).toArray⟩ := by rw [ext_mk]; rfl
    have e4 : (⟨r.toArray⟩ : ByteArray).extract k r.length = ⟨(r.drop k).toArray⟩ := by rw [ext_mk, List.take_length]
    have g1 : (0 : Int) ≤ k := by omega
    have g2 : (k : Int) ≤ r.length := by omega
    by_cases hls : 192 ≤ c.toNat
    · rw [if_neg (by omega)] at hcut
      have hd : decide ((192 : Int) ≤ (c.toNat : Int)) = true := by simp; omega
      have H := Lib.hid hcut
      clear hcut hc hke
      go_enter Tryd.func143, Tryd.ntmps143
      go_wp2
      go_quiet (fail)
      go_wp2
      go_quiet (fail)
      go_wp2
      refine bodyPost_ret (results_tmp4 rfl _ _ _) rfl ?_
      refine ⟨r.take k, r.drop k, true, true, rfl, ?_, _, drewN_add _ _ _⟩
      have := H.out
      rw [decide_eq_true hls] at this
      exact Lib.hid this
    · have hd : decide ((192 : Int) ≤ (c.toNat : Int)) = false := by simp; omega
      rw [decide_eq_false hls] at hcut
      by_cases hk1 : k = 1
      · subst hk1
        cases r with
        | nil => exact absurd (by simp : 1 > ([] : List UInt8).length) hl
        | cons b r' => exact cut_one c b r' S ⟨hsz, hne, hat, e1, e2⟩ w hlen hc hke hls
      · rw [if_neg (by intro h; exact hk1 h.2.1)] at hcut
        have hd2 : ((k : Int) != 1) = true := by simp; omega
        have H := Lib.hid hcut
        clear hcut hc hke
        go_enter Tryd.func143, Tryd.ntmps143
        go_wp2
        go_quiet (fail)
        go_wp2
        go_quiet (fail)
        go_wp2
        refine bodyPost_ret (results_tmp4 rfl _ _ _) rfl ?_
        exact ⟨r.take k, r.drop k, false, true, rfl, H, _, drewN_add _ _ _⟩
end Go.Proofs.YthicdhnjincflaaDoor
/- Contract of cut: the case of a long head; all cases. -/
namespace Go.Proofs.YthicdhnjincflaaDoor
open Go.RowKit Go.Shelf Go.Lib

set_option maxRecDepth 100000 in
set_option maxHeartbeats 3200000 in
theorem cut_far (c : UInt8) (r : List UInt8) (K k : Nat) (S : ByteArray) (hS : Txt S c r) (w : World) (hlen : r.length ≤ 1099511627776) (hc : ¬ c.toNat < 128) (hKe : (c.toNat - 128) % 64 = K) (hK : K > 55) (hk : K - 55 = k) :
    Calls Tryd.prog 143 #[.string S] w fun e w' => CutIs (c :: r) e w w' := by
  obtain ⟨hsz, hne, hat, e1, e2⟩ := hS
  have h0 : 0 < S.size := by omega
  have h1 : ¬ (c.toNat : Int) < 128 := by omega
  have h2 : (128 : Int) ≤ (c.toNat : Int) := by omega
  have h3 := sub_form hc hKe
  have h4 : (55 : Int) < (K : Int) := by omega
  have h6 : (K : Int) - 55 = (k : Int) := by omega
  have hcut : cut (c :: r) = if k > r.length then Option.none
      else if (value (r.take k)).2 ≠ 0 ∨ (value (r.take k)).1 < 56 then Option.none
      else if (value (r.take k)).1 > (r.drop k).length then Option.none
      else some ((r.drop k).take (value (r.take k)).1, decide (192 ≤ c.toNat), (r.drop k).drop (value (r.take k)).1) := by
    rw [cut_cons, if_neg hc, hKe, if_pos hK, hk]
  by_cases hl : k > r.length
  · rw [if_pos hl] at hcut
    have H := Lib.hid hcut
    have h5 : (r.length : Int) < (k : Int) := by omega
    clear hcut hc hKe hK hk
    go_enter Tryd.func143, Tryd.ntmps143
    go_wp2
    refine bodyPost_ret (results_tmp4 rfl _ _ _) rfl ?_
    exact ⟨[], r, _, false, rfl, H, 0, rfl⟩
  · rw [if_neg hl] at hcut
    have h5 : ¬ (r.length : Int) < (k : Int) := by omega
    have e3 : (⟨r.toArray⟩ : ByteArray).extract 0 k = ⟨(r.take k).toArray⟩ := by rw [ext_mk]; rfl
    have e4 : (⟨r.toArray⟩ : ByteArray).extract k r.length = ⟨(r.drop k).toArray⟩ := by rw [ext_mk, List.take_length]
    have g1 : (0 : Int) ≤ k := by omega
    have g2 : (k : Int) ≤ r.length := by omega
    have hval := fun wx => value_any ⟨(r.take k).toArray⟩ wx
    have hvV : valueV (⟨(r.take k).toArray⟩ : ByteArray).data.toList = .tuple #[.int .u64 ((value (r.take k)).1 : Int), .int .i64 (value (r.take k)).2] := rfl
    rw [hvV] at hval
    have hv64 : (value (r.take k)).1 < 18446744073709551616 := by
      unfold value
      split
      · simp
      · rename_i h
        exact val_lt64 (by omega)
    obtain ⟨v, er, hv⟩ : ∃ v er, value (r.take k) = (v, er) := ⟨_, _, rfl⟩
    rw [hv] at hcut hval hv64
    simp only at hcut hval hv64
    have Hval := Lib.hid hval
    clear hval hvV hv
    by_cases hbad : er ≠ 0 ∨ v < 56
    · rw [if_pos hbad] at hcut
      have H := Lib.hid hcut
      clear hcut hc hKe hK hk
      by_cases her : er = 0
      · subst her
        have h7 : (v : Int) < 56 := by have := hbad.resolve_left (by simp); omega
        clear hbad
        go_enter Tryd.func143, Tryd.ntmps143
        go_wp2_with fail
        refine (Hval.out _).mono ?_
        rintro e w1 ⟨rfl, rfl⟩
        go_wp2
        refine bodyPost_ret (results_tmp4 rfl _ _ _) rfl ?_
        exact ⟨[], r, _, false, rfl, H, 0, rfl⟩
      · clear hbad
        go_enter Tryd.func143, Tryd.ntmps143
        go_wp2_with fail
        refine (Hval.out _).mono ?_
        rintro e w1 ⟨rfl, rfl⟩
        go_wp2
        refine bodyPost_ret (results_tmp4 rfl _ _ _) rfl ?_
        exact ⟨[], r, _, false, rfl, H, 0, rfl⟩
    · rw [if_neg hbad] at hcut
      obtain rfl : er = 0 := by
        by_cases h : er = 0
        · exact h
        · exact absurd (.inl h) hbad
      have h7 : ¬ (v : Int) < 56 := by have : ¬ v < 56 := fun h => hbad (.inr h); omega
      clear hbad
      obtain ⟨T, hT⟩ : ∃ T, r.drop k = T := ⟨_, rfl⟩
      have hTl : T.length ≤ 1099511627776 := by rw [← hT, List.length_drop]; omega
      rw [hT] at hcut e4
      clear hT
      by_cases hn : v > T.length
      · rw [if_pos hn] at hcut
        have h8 : (T.length : Int) < (v : Int) := by omega
        have H := Lib.hid hcut
        clear hcut hc hKe hK hk
        go_enter Tryd.func143, Tryd.ntmps143
        go_wp2_with fail
        refine (Hval.out _).mono ?_
        rintro e w1 ⟨rfl, rfl⟩
        go_wp2
        go_quiet (fail)
        go_wp2
        refine bodyPost_ret (results_tmp4 rfl _ _ _) rfl ?_
        exact ⟨[], T, _, false, rfl, H, _, rfl⟩
      · rw [if_neg hn] at hcut
        have h8 : ¬ (T.length : Int) < (v : Int) := by omega
        have e5 : (⟨T.toArray⟩ : ByteArray).extract 0 v = ⟨(T.take v).toArray⟩ := by rw [ext_mk]; rfl
        have e6 : (⟨T.toArray⟩ : ByteArray).extract v T.length = ⟨(T.drop v).toArray⟩ := by rw [ext_mk, List.take_length]
        have g3 : (0 : Int) ≤ v := by omega
        have g4 : (v : Int) ≤ T.length := by omega
        have g5 : ((v : Int) != 1) = true := by simp; omega
        rcases (by omega : 192 ≤ c.toNat ∨ ¬ 192 ≤ c.toNat) with hls | hls
        · rw [decide_eq_true hls] at hcut
          have hd : decide ((192 : Int) ≤ (c.toNat : Int)) = true := by simp; omega
          have H := Lib.hid hcut
          clear hcut hc hKe hK hk
          go_enter Tryd.func143, Tryd.ntmps143
          go_wp2_with fail
          refine (Hval.out _).mono ?_
          rintro e w1 ⟨rfl, rfl⟩
          go_wp2
          go_quiet (fail)
          go_wp2
          go_quiet (fail)
          go_wp2
          go_quiet (fail)
          go_wp2
          refine bodyPost_ret (results_tmp4 rfl _ _ _) rfl ?_
          exact ⟨_, _, true, true, rfl, H, _, by rw [drewN_add, drewN_add]⟩
        · rw [decide_eq_false hls] at hcut
          have hd : decide ((192 : Int) ≤ (c.toNat : Int)) = false := by simp; omega
          have H := Lib.hid hcut
          clear hcut hc hKe hK hk
          go_enter Tryd.func143, Tryd.ntmps143
          go_wp2_with fail
          refine (Hval.out _).mono ?_
          rintro e w1 ⟨rfl, rfl⟩
          go_wp2
          go_quiet (fail)
          go_wp2
          go_quiet (fail)
          go_wp2
          go_quiet (fail)
          go_wp2
          refine bodyPost_ret (results_tmp4 rfl _ _ _) rfl ?_
          exact ⟨_, _, false, true, rfl, H, _, by rw [drewN_add, drewN_add]⟩

/-- cut, of any text -/
theorem cut_any (l : List UInt8) (w : World) (hlen : l.length ≤ 1099511627776) : Calls Tryd.prog 143 #[.string ⟨l.toArray⟩] w fun e w' => CutIs l e w w' := by
  cases l with
  | nil => exact cut_nil w
  | cons c r =>
    have hS := txt c r
    have hr : r.length ≤ 1099511627776 := by simp only [List.length_cons] at hlen; omega
    by_cases h1 : c.toNat < 128
    · exact cut_low c r _ hS w hr h1
    · by_cases h2 : (c.toNat - 128) % 64 > 55
      · exact cut_far c r _ _ _ hS w hr h1 rfl h2 rfl
      · exact cut_brief c r _ _ hS w hr h1 rfl h2
end Go.Proofs.YthicdhnjincflaaDoor
