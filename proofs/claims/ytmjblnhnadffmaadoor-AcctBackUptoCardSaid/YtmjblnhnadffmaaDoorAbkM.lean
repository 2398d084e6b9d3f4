/- Plain: accounts, receipts, words there and back. -/
import Derived.Test.YtmjblnhnadffmaaDoorRcF
import Derived.Test.YtmjblnhnadffmaaDoorAccS
import Derived.Test.YtmjblnhnadffmaaDoorAcqL
import Derived.Test.YtmjblnhnadffmaaDoorRcS
namespace Go.Proofs.YtmjblnhnadffmaaDoor
open Go.RowKit Go.Shelf Go.Lib

theorem acct_there {n b : Nat} {root code : ByteArray} {pl : List UInt8} (hn : n < 18446744073709551616) (hb : b < 256 ^ 32) (h : acctBytes n b root.data.toList code.data.toList = (pl, 0)) : acctOf pl = acctV n b root code ∧ acctErr pl = 0 := by
  unfold acctBytes at h
  split at h
  · cases h
  · rename_i hne
    cases h
    have hr : root.data.toList.length = 32 := by omega
    have hc : code.data.toList.length = 32 := by omega
    have hd := decode_encode (acct_encode n b hr hc)
    obtain ⟨k1, k2, k3, k4, k5⟩ := acct_back n b hn hb hr hc
    obtain ⟨e1, e2⟩ := acct_good hd k1
    rw [k2, k3, k4, k5] at e1
    exact ⟨e1, e2⟩
theorem acct_here (s : List UInt8) : (acctErr s = 0 ∨ acctErr s = 160) ∧ ∃ n b r c, acctOf s = acctV n b r c ∧ n < 18446744073709551616 ∧ (acctErr s = 0 → acctBytes n b r.data.toList c.data.toList = (s, 0)) := by
  obtain ⟨x, m, hx⟩ : ∃ x m, decode s = (x, m) := ⟨_, _, rfl⟩
  cases hb : acctB x m with
  | false =>
    obtain ⟨e1, e2⟩ := acct_bad hx hb
    exact ⟨.inr e2, 0, 0, ⟨#[]⟩, ⟨#[]⟩, by rw [e1, acctV_zero]; rfl, by decide, fun h => by rw [e2] at h; cases h⟩
  | true =>
    obtain ⟨e1, e2⟩ := acct_good hx hb
    have hm : m = 0 := by
      unfold acctB acctShape at hb
      simp only [Bool.and_eq_true, decide_eq_true_eq] at hb
      exact hb.1.1
    subst hm
    obtain ⟨h1, h2, h3, h4⟩ := encode_ok (encode_decode hx)
    obtain ⟨l1, l2⟩ := acct_rev_len hb
    refine ⟨.inl e2, _, _, _, _, e1, value_lt _, fun _ => ?_⟩
    have := acct_rev h2 hb
    unfold acctBytes
    rw [if_neg (by rintro (h | h) <;> simp_all)]
    show (put (acctItem (value (aT x 0)).1 (wordOf (aT x 1)) (aT x 2) (aT x 3)), (0 : Int)) = _
    rw [this, ← h1]
theorem rcpt_there {good : Bool} {gas : Nat} {ls : List LogD} {rl : List UInt8} (hg : gas < 18446744073709551616) (h : rcptBytes good gas ls = (rl, 0)) : rcptOf rl = (good, gas, ls) ∧ rcptErr rl = 0 := by
  unfold rcptBytes at h
  cases hr : rcptRight ls with
  | false => rw [hr] at h; cases h
  | true =>
    rw [hr] at h
    have hd := decode_encode (show encode (rcptItem good gas ls) = (rl, 0) from h)
    obtain ⟨k1, k2, k3, k4⟩ := rcpt_back good gas ls hg hr
    obtain ⟨e1, e2⟩ := rcpt_good hd k1
    rw [k2, k3, k4] at e1
    exact ⟨e1, e2⟩
mutual
theorem weight_put : ∀ (x : Item), wrong x = false → x.weight ≤ 2 * (put x).length
  | .mk true t l, h => by
    obtain ⟨e, hw⟩ := wrong_lst h rfl
    have ht : t = [] := by injection e
    subst ht
    have h1 := weight_putAll l hw
    have h2 : (putAll l).length < (put (.mk true [] l)).length := by rw [put_list (by rfl)]; exact framed_le _ _
    simp only [Item.weight, List.length_nil]
    omega
  | .mk false t l, h => by
    have e := wrong_txt h rfl
    have hl : l = [] := by
      have := congrArg Item.list e
      exact this
    subst hl
    rw [put_text (by rfl)]
    have h1 := putText_ge t
    have h2 := putText_pos t
    simp only [Item.weight, weightAll, Item.text]
    omega
theorem weight_putAll : ∀ (l : List Item), wrongAny l = false → weightAll l ≤ 2 * (putAll l).length
  | [], _ => by simp [weightAll]
  | x :: r, h => by
    have h1 : wrong x = false := wrongs_mem h (List.mem_cons_self ..)
    have h2 : wrongAny r = false := by
      simp only [wrongAny, Bool.or_eq_false_iff] at h
      exact h.2
    have h3 := weight_put x h1
    have h4 := weight_putAll r h2
    rw [putAll, List.length_append]
    simp only [weightAll]
    omega
end
theorem weightT_items (l : List ByteArray) : weightL.weightT l ≤ weightAll (l.map textItem) := by
  induction l with
  | nil => exact Nat.le_refl _
  | cons t r ih =>
    simp only [List.map_cons, weightAll, weightL.weightT, textItem, Item.weight]
    have e : t.data.toList.length = t.size := rfl
    omega
theorem weightL_items (ls : List LogD) : weightL ls ≤ weightAll (ls.map logItem) := by
  induction ls with
  | nil => exact Nat.le_refl _
  | cons l r ih =>
    have h := weightT_items l.tops
    simp only [List.map_cons, weightAll, weightL, logItem, topsItem, textItem, Item.weight]
    have e1 : l.addr.data.toList.length = l.addr.size := rfl
    have e2 : l.data.data.toList.length = l.data.size := rfl
    simp only [List.length_nil]
    omega
theorem rcpt_here (s : List UInt8) {g : Bool} {gas : Nat} {ls : List LogD} (h : rcptOf s = (g, gas, ls)) : (rcptErr s = 0 ∨ rcptErr s = 160) ∧ gas < 18446744073709551616 ∧ weightL ls ≤ 1048576 ∧ (rcptErr s = 0 → rcptBytes g gas ls = (s, 0)) := by
  obtain ⟨x, m, hx⟩ : ∃ x m, decode s = (x, m) := ⟨_, _, rfl⟩
  cases hb : rcptB x m with
  | false =>
    obtain ⟨e1, e2⟩ := rcpt_bad hx hb
    cases e1.symm.trans h
    exact ⟨.inr e2, by decide, by decide, fun h => by rw [e2] at h; cases h⟩
  | true =>
    obtain ⟨e1, e2⟩ := rcpt_good hx hb
    have hm : m = 0 := by
      unfold rcptB rcptShape at hb
      simp only [Bool.and_eq_true, decide_eq_true_eq] at hb
      exact hb.1.1
    subst hm
    cases e1.symm.trans h
    obtain ⟨h1, h2, h3, h4⟩ := encode_ok (encode_decode hx)
    obtain ⟨k1, k2⟩ := rcpt_rev h2 hb
    refine ⟨.inl e2, rcpt_lt x, ?_, fun _ => ?_⟩
    · have w1 := weight_put x h2
      have w2 := weightL_items (rcptLogs x)
      have w3 : weightAll ((rcptLogs x).map logItem) ≤ x.weight := by
        rw [← k2]
        have e : rcptLogs (rcptItem (rcptGood x) (rcptGas x) (rcptLogs x)) = rcptLogs x := by rw [k2]
        rw [e]
        simp only [rcptItem, Item.weight, weightAll]
        omega
      rw [h1] at h4
      omega
    · unfold rcptBytes
      rw [k1, k2]
      exact encode_decode hx
theorem slot_here (s : List UInt8) : ((slotFrom s).2 = 0 ∨ (slotFrom s).2 = 160) ∧ ((slotFrom s).2 = 0 → slotL (slotFrom s).1 = s) := by
  unfold slotFrom
  split
  · exact ⟨.inr rfl, fun h => by cases h⟩
  · rename_i hc
    refine ⟨.inl rfl, fun _ => ?_⟩
    simp only [not_or, ne_eq, Decidable.not_not, Bool.not_eq_true, Bool.not_eq_false] at hc
    obtain ⟨c1, c2, c3, c4⟩ := hc
    have hx : decode s = ((decode s).1, 0) := by rw [← c1]
    obtain ⟨h1, h2, h3, h4⟩ := encode_ok (encode_decode hx)
    have e := put_text c2
    obtain ⟨b1, b2⟩ := isShortW_iff.1 c3
    unfold slotL
    rw [shortW_wordOf b1 b2, ← e, ← h1]
end Go.Proofs.YtmjblnhnadffmaaDoor
/- The walk of the law AcctBack, behind its first test, for any frame. -/
namespace Go.Proofs.YtmjblnhnadffmaaDoor
open Go.RowKit Go.Shelf Go.Lib
attribute [local go_sem] Oper.semAt_some

/-- the body behind its first test -/
noncomputable def backRest : Code := match Tryd.f6.body with
  | some (.seq _ (.seq _ (.seq _ (.seq _ (.seq _ (.seq _ (.seq _ (.seq _ r)))))))) => r
  | _ => .ret
theorem acct_list (n b : Nat) (r c : ByteArray) : ∃ A : List Value, acctV n b r c = .agg A.toArray ∧ A.toArray.all (·.oneCell') = true ∧ A.length = 7 ∧ spl acctZ 0 A = A ∧ ∀ W, (Op.equalIn 10000 32 (.agg A.toArray) (.agg A.toArray)).run Tryd.prog W = .ok true W :=
  ⟨_, acctV_form n b r c, acctL_one _ _ _ _ _ _ _, rfl, rfl, fun W => eq_acct _ _ _ _ _ _ _ W⟩
theorem bytes_lit (l : List UInt8) : ∃ b : ByteArray, (⟨l.toArray⟩ : ByteArray) = b := ⟨_, rfl⟩
set_option maxRecDepth 100000 in
set_option maxHeartbeats 12800000 in
theorem back_rest (s : ByteArray) (w : World) (u0 u1 u2 u4 u5 u6 u7 u8 u10 u11 u12 u13 u14 u15 u16 u17 u18 u19 u20 u21 u22 u23 u24 u25 u26 u27 u28 u29 u30 u31 u32 u33 u34 u35 u36 u37 u38 u39 u40 u41 u42 u43 u44 u45 u46 u47 u48 u49 u50 u51 u52 u53 u54 u55 u56 u57 u58 u59 u60 u61 u62 u63 u64 u65 u66 u67 u68 u69 u70 u71 u72 u73 u74 u75 u76 u77 u78 u79 u80 u81 u82 u83 u84 u85 u86 u87 u88 u89 u90 u91 u92 u93 u94 u95 u96 u97 u98 u99 u100 u101 u102 u103 u104 u105 u106 u107 u108 u109 u110 u111 u112 u113 u114 u115 u116 u117 u118 u119 u120 u121 u122 u123 u124 u125 u126 u127 u128 u129 u130 u131 u132 u133 u134 u135 u136 u137 u138 u139 u140 u141 u142 u143 u144 u145 u146 u147 u148 u149 u150 u151 u152 u153 u154 u155 u156 u157 : Value) (w0 : World) (HB0 : Hid (Below w.heap.size w w0)) (hs : s.size ≤ 1048576) :
    backRest.wp Tryd.prog (bodyPost Tryd.prog Tryd.f6 (fun e w' => e = .returned (.bool true) ∧ Below w.heap.size w w')) ⟨#[u0, u1, u2, .string s, u4, u5, u6, u7, u8, .bool true, u10, u11, u12, u13, u14, u15, u16, u17, u18, u19, u20, u21, u22, u23, u24, u25, u26, u27, u28, u29, u30, u31, u32, u33, u34, u35, u36, u37, u38, u39, u40, u41, u42, u43, u44, u45, u46, u47, u48, u49, u50, u51, u52, u53, u54, u55, u56, u57, u58, u59, u60, u61, u62, u63, u64, u65, u66, u67, u68, u69, u70, u71, u72, u73, u74, u75, u76, u77, u78, u79, u80, u81, u82, u83, u84, u85, u86, u87, u88, u89, u90, u91, u92, u93, u94, u95, u96, u97, u98, u99, u100, u101, u102, u103, u104, u105, u106, u107, u108, u109, u110, u111, u112, u113, u114, u115, u116, u117, u118, u119, u120, u121, u122, u123, u124, u125, u126, u127, u128, u129, u130, u131, u132, u133, u134, u135, u136, u137, u138, u139, u140, u141, u142, u143, u144, u145, u146, u147, u148, u149, u150, u151, u152, u153, u154, u155, u156, u157], []⟩ w0 := by
  obtain ⟨ha, an, ab, ar, ac, e1, e2, e3⟩ := acct_here s.data.toList
  obtain ⟨A, f1, f2, f3, f4, f5⟩ := acct_list an ab ar ac
  have HF := Lib.hid (fun W => acctFrom_any s.data.toList W (by show s.size ≤ _; omega))
  have HY := Lib.hid (fun W => acctBytes_any an ab ar ac W e2)
  rw [e1, f1] at HF
  rw [f1] at HY
  obtain ⟨ea, hea⟩ : ∃ e, acctErr s.data.toList = e := ⟨_, rfl⟩
  rw [hea] at HF ha e3
  obtain ⟨cl, el, hce⟩ : ∃ a b, acctBytes an ab ar.data.toList ac.data.toList = (a, b) := ⟨_, _, rfl⟩
  rw [hce] at HY e3
  obtain ⟨cb, hcb⟩ := bytes_lit cl
  dsimp only at HY
  rw [hcb] at HY
  have HE3 := Lib.hid (show ea = 0 → cb = s ∧ el = 0 from fun h => by
    have h2 := e3 h
    cases h2
    exact ⟨hcb.symm, rfl⟩)
  have HAA := Lib.hid (And.intro f2 (And.intro f3 f4))
  have HR := Lib.hid (fun W => rcptFrom_any s.data.toList W (by show s.size ≤ _; omega))
  obtain ⟨er, her⟩ : ∃ e, rcptErr s.data.toList = e := ⟨_, rfl⟩
  have HER := Lib.hid her
  obtain ⟨hsl, hsr⟩ := slot_here s.data.toList
  obtain ⟨sv, es, hss⟩ : ∃ a b, slotFrom s.data.toList = (a, b) := ⟨_, _, rfl⟩
  rw [hss] at hsl hsr
  dsimp only at hsl hsr
  have HSF := Lib.hid (fun W => slotFrom_lit (s := s) hss (by omega) W)
  have HSL := Lib.hid (fun W => slot_any sv W)
  obtain ⟨tb, htb⟩ := bytes_lit (slotL sv)
  rw [htb] at HSL
  have HE4 := Lib.hid (show es = 0 → tb = s from fun h => by rw [← htb, hsr h])
  obtain ⟨x0, x1, x2, x3, hw, -⟩ := wordV_form sv
  rw [hw] at HSF HSL
  clear e1 e2 e3 f1 f2 f3 f4 hea hce hcb her hss hsr htb hw hs
  show Code.wp _ _ _ _ _
  dsimp only [backRest, Tryd.f6]
  go_wp2_with fail
  refine (HF.out _).mono ?_
  rintro e w1 ⟨rfl, hb1⟩
  have HB1 := Lib.hid (HB0.out.trans (hb1.mono HB0.out.size))
  clear hb1
  obtain ⟨w2, hw2⟩ : ∃ W, (w1.alloc (.cells acctZ.toArray 32)).setCells w1.heap.size 0 A = W := ⟨_, rfl⟩
  have hb2 : Below w1.heap.size w1 w2 := by rw [← hw2]; exact (laid1 w1 _).trans (sets_belowK (Nat.le_refl _) _ _ _)
  have hq2 : HasCells w2 w1.heap.size A 32 := by
    rw [← hw2]
    have h := (HasCells.new w1 acctZ 32).sets A 0
    rw [HAA.out.2.2] at h
    exact h
  have HB2 := Lib.hid (HB1.out.trans (hb2.mono HB1.out.size))
  have HQ2 := Lib.hid hq2
  have HWN2 := Lib.hid (show (w1.alloc (.cells #[.int .u64 0, .int .u64 0, .int .u64 0, .int .u64 0, .int .u64 0, .string ⟨#[]⟩, .string ⟨#[]⟩] 32)).setCells w1.heap.size 0 A = w2 from hw2)
  clear hw2 hq2 hb2
  go_wp2_with (first | rw [HWN2.out] | ((with_reducible refine store_gateK 32 ?_); refine wpList_store_mid rfl 32 _ _ rfl w1.heap.size 0 A.toArray rfl rfl ((HasCells.new w1 acctZ 32).there 0 _ (by rw [List.size_toArray, HAA.out.2.1]; decide)) (by rw [List.size_toArray, HAA.out.2.1]; exact infoAcct) HAA.out.1 ?_) | ((with_reducible refine load_gateK 32 ?_); refine wpList_load_midK (by rfl) 32 _ rfl w1.heap.size 0 rfl A _ HQ2.out.range Tryd.underlying32 rfl (by rw [HAA.out.2.1]; exact infoAcct) ?_))
  refine (HY.out _).mono ?_
  rintro e w3 ⟨rfl, hb3⟩
  have HB3 := Lib.hid (HB2.out.trans (hb3.mono HB2.out.size))
  clear hb3
  go_wp2_with fail
  refine (HR.out _).mono ?_
  rintro e w4 ⟨gd, gas, ls, v, rfl, hof, hlg, ⟨pv, nv, cv, rfl⟩, hb4⟩
  rw [HER.out]
  obtain ⟨hr1, hr2, hr3, hr4⟩ := rcpt_here _ hof
  rw [HER.out] at hr1 hr4
  obtain ⟨p2, c2, e⟩ := hlg.form
  cases e
  obtain ⟨dl, dn, hde⟩ : ∃ a b, rcptBytes gd gas ls = (a, b) := ⟨_, _, rfl⟩
  obtain ⟨db, hdb⟩ := bytes_lit dl
  have HE5 := Lib.hid (show er = 0 → db = s ∧ dn = 0 from fun h => by
    have h2 := hr4 h
    rw [hde] at h2
    cases h2
    exact ⟨hdb.symm, rfl⟩)
  have HRB := Lib.hid (fun W (hb : Below w4.heap.size w4 W) => rcptBytes_any gd gas ls pv cv W (hlg.below hb) hr2 hr3)
  rw [hde] at HRB
  dsimp only at HRB
  rw [hdb] at HRB
  have HB4 := Lib.hid (HB3.out.trans (hb4.mono HB3.out.size))
  obtain ⟨ln, hln⟩ : ∃ n, ls.length = n := ⟨_, rfl⟩
  rw [hln] at HRB ⊢
  clear hb4 hof hlg hr2 hr3 hr4 hde hdb hln
  have hl5 := laid1 w4 (.cells #[.bool gd, .int .u64 gas, .slice pv ln cv] 38)
  have HL5 := Lib.hid hl5
  have HB5 := Lib.hid (HB4.out.trans (hl5.mono HB4.out.size))
  clear hl5
  go_wp2_with fail
  refine (HRB.out _ HL5.out).mono ?_
  rintro e w6 ⟨rfl, hb6⟩
  have HB6 := Lib.hid (HB5.out.trans (hb6.mono HB5.out.size))
  clear hb6
  go_wp2_with fail
  refine (HSF.out _).mono ?_
  rintro e w7 ⟨rfl, hb7⟩
  have HB7 := Lib.hid (HB6.out.trans (hb7.mono HB6.out.size))
  have HL8 := Lib.hid (HB7.out.trans ((laid1 w7 (.cells #[.int .u64 x0, .int .u64 x1, .int .u64 x2, .int .u64 x3] 24)).mono HB7.out.size))
  clear hb7
  rcases ha with rfl | rfl
  · obtain ⟨rfl, rfl⟩ := HE3.out rfl
    rcases hr1 with rfl | rfl
    · obtain ⟨rfl, rfl⟩ := HE5.out rfl
      rcases hsl with rfl | rfl
      · go_wp2_with fail
        refine (HSL.out _).mono ?_
        rintro e w8 ⟨rfl, hb8⟩
        have htb := HE4.out (by simp)
        subst htb
        go_wp2
        go_ret
        exact ⟨rfl, HL8.out.trans (hb8.mono HL8.out.size)⟩
      · go_wp2
        go_ret
        exact ⟨rfl, HL8.out⟩
    · rcases hsl with rfl | rfl
      · go_wp2_with fail
        refine (HSL.out _).mono ?_
        rintro e w8 ⟨rfl, hb8⟩
        have htb := HE4.out (by simp)
        subst htb
        go_wp2
        go_ret
        exact ⟨rfl, HL8.out.trans (hb8.mono HL8.out.size)⟩
      · go_wp2
        go_ret
        exact ⟨rfl, HL8.out⟩
  · rcases hr1 with rfl | rfl
    · obtain ⟨rfl, rfl⟩ := HE5.out rfl
      rcases hsl with rfl | rfl
      · go_wp2_with fail
        refine (HSL.out _).mono ?_
        rintro e w8 ⟨rfl, hb8⟩
        have htb := HE4.out (by simp)
        subst htb
        go_wp2
        go_ret
        exact ⟨rfl, HL8.out.trans (hb8.mono HL8.out.size)⟩
      · go_wp2
        go_ret
        exact ⟨rfl, HL8.out⟩
    · rcases hsl with rfl | rfl
      · go_wp2_with fail
        refine (HSL.out _).mono ?_
        rintro e w8 ⟨rfl, hb8⟩
        have htb := HE4.out (by simp)
        subst htb
        go_wp2
        go_ret
        exact ⟨rfl, HL8.out.trans (hb8.mono HL8.out.size)⟩
      · go_wp2
        go_ret
        exact ⟨rfl, HL8.out⟩
end Go.Proofs.YtmjblnhnadffmaaDoor

/- The walk of the law AcctBack: it returns true, and nothing that was there is changed. -/
namespace Go.Proofs.YtmjblnhnadffmaaDoor
open Go.RowKit Go.Shelf Go.Lib
attribute [local go_sem] Oper.semAt_some

theorem stop_here {P : Prop} (h : Hid P) : P := h.out
theorem encode_len (x : Item) : (encode x).1.length ≤ 65536 := by
  unfold encode
  split
  · simp
  · split
    · simp
    · split
      · simp
      · dsimp only; omega
theorem rcptBytes_len (g : Bool) (gas : Nat) (ls : List LogD) : (rcptBytes g gas ls).1.length ≤ 65536 := by
  unfold rcptBytes
  cases rcptRight ls with
  | true => exact encode_len _
  | false => simp
theorem acctBytes_len {n b : Nat} {root code pl : List UInt8} {e : Int} (h : acctBytes n b root code = (pl, e)) : pl.length ≤ 112 ∧ (e = 0 ∨ e = 160) := by
  unfold acctBytes at h
  split at h
  · cases h; exact ⟨by simp, .inr rfl⟩
  · rename_i hne
    cases h
    exact ⟨(acct_put n b (by omega) (by omega)).2, .inl rfl⟩
set_option maxRecDepth 100000 in
set_option maxHeartbeats 12800000 in
theorem law_back (n b : Nat) (root code : ByteArray) (good : Bool) (gas : Nat) (ls : List LogD) (v : Value) (u : Nat) (s : ByteArray) (w : World) (hn : n < 18446744073709551616) (hb : b < 256 ^ 32) (hg : gas < 18446744073709551616) (hv : Logs w v ls) (hwt : weightL ls ≤ 1048576) (hu : u < 256 ^ 32) (hs : s.size ≤ 1048576) :
    Calls Tryd.prog 6 #[acctV n b root code, .agg #[.bool good, .int .u64 gas, v], wordV u, .string s] w fun e w' => e = .returned (.bool true) ∧ Below w.heap.size w w' := by
  obtain ⟨pv, cv, rfl⟩ := hv.form
  obtain ⟨A, f1, f2, f3, f4, f5⟩ := acct_list n b root code
  obtain ⟨pl, er, hpe⟩ : ∃ x y, acctBytes n b root.data.toList code.data.toList = (x, y) := ⟨_, _, rfl⟩
  obtain ⟨hpl, her⟩ := acctBytes_len hpe
  have HY := Lib.hid (fun W => acctBytes_any n b root code W hn)
  rw [hpe] at HY
  dsimp only at HY
  obtain ⟨an, ab, ar, ac, hC0⟩ : ∃ a b c d, acctOf pl = acctV a b c d := by
    obtain ⟨_, a, b, c, d, h, _⟩ := acct_here pl
    exact ⟨a, b, c, d, h⟩
  obtain ⟨C, g1, g2, g3, g4, g5⟩ := acct_list an ab ar ac
  have HF := Lib.hid (fun W => acctFrom_any pl W (by omega))
  obtain ⟨ef, hef⟩ : ∃ e, acctErr pl = e := ⟨_, rfl⟩
  rw [hC0, g1, hef] at HF
  have HSAM := Lib.hid (show er = 0 → ef = 0 ∧ C = A from fun h => by
    subst h
    obtain ⟨e1, e2⟩ := acct_there hn hb hpe
    rw [hC0, g1, f1] at e1
    have : C.toArray = A.toArray := by injection e1
    exact ⟨by rw [← hef, e2], by simpa using this⟩)
  rw [f1] at HY ⊢
  have HA := Lib.hid (And.intro f2 (And.intro f3 f4))
  have HC := Lib.hid (And.intro g2 (And.intro g3 g4))
  obtain ⟨rl, ge, hrg⟩ : ∃ x y, rcptBytes good gas ls = (x, y) := ⟨_, _, rfl⟩
  have hrl : rl.length ≤ 65536 := by have := rcptBytes_len good gas ls; rw [hrg] at this; exact this
  have HRB := Lib.hid (fun W (hb : Below w.heap.size w W) => rcptBytes_any good gas ls pv cv W (hv.below hb) hg hwt)
  rw [hrg] at HRB
  dsimp only at HRB
  have HRF := Lib.hid (fun W => rcptFrom_any rl W (by omega))
  obtain ⟨e6, he6⟩ : ∃ e, rcptErr rl = e := ⟨_, rfl⟩
  have HE6 := Lib.hid he6
  have HRT := Lib.hid (show ge = 0 → rcptOf rl = (good, gas, ls) ∧ e6 = 0 from fun h => by
    subst h
    rw [← he6]
    exact rcpt_there hg hrg)
  have hlw := len_weightL ls
  have HLS := Lib.hid (show ls.length ≤ 1099511627775 ∧ ∀ x ∈ ls, x.tops.length ≤ 1099511627775 from ⟨by omega, fun x hx => by have := mem_weightL hx; omega⟩)
  have HV := Lib.hid hv
  obtain ⟨ln, hln⟩ : ∃ k, ls.length = k := ⟨_, rfl⟩
  rw [hln] at HRB HV ⊢
  have HLN := Lib.hid hln
  obtain ⟨x0, x1, x2, x3, hw, -⟩ := wordV_form u
  have HSL := Lib.hid (fun W => slot_any u W)
  have hsf := slotFrom_slotL hu
  have hsl2 := (slotL_len u).2
  obtain ⟨tl, htl⟩ : ∃ l, slotL u = l := ⟨_, rfl⟩
  rw [htl] at HSL hsf hsl2
  obtain ⟨sv, es, hss⟩ : ∃ x y, slotFrom tl = (x, y) := ⟨_, _, rfl⟩
  have HSF := Lib.hid (fun W => slotFrom_lit (s := ⟨tl.toArray⟩) (by exact hss) (by show tl.length ≤ _; omega) W)
  rw [hss] at hsf
  obtain ⟨y0, y1, y2, y3, hw2, -⟩ := wordV_form sv
  obtain ⟨bu, hbu⟩ : ∃ x, decide (u = 0) = x := ⟨_, rfl⟩
  have hq0 : ∀ W, (Op.equalIn 10000 24 (.agg #[.int .u64 x0, .int .u64 x1, .int .u64 x2, .int .u64 x3]) (.agg #[.int .u64 0, .int .u64 0, .int .u64 0, .int .u64 0])).run Tryd.prog W = .ok bu W := fun W => by
    have h := eq_wordV hu (show 0 < 256 ^ 32 by decide) W
    rw [hw, wordV_zero, hbu] at h
    exact h
  have HSE := Lib.hid (show bu = false → es = 0 ∧ ∀ W, (Op.equalIn 10000 24 (.agg #[.int .u64 y0, .int .u64 y1, .int .u64 y2, .int .u64 y3]) (.agg #[.int .u64 x0, .int .u64 x1, .int .u64 x2, .int .u64 x3])).run Tryd.prog W = .ok true W from fun h => by
    have hne : u ≠ 0 := by rw [← hbu] at h; simpa using h
    rw [if_neg hne] at hsf
    cases hsf
    refine ⟨rfl, fun W => ?_⟩
    have h2 := eq_wordV hu hu W
    rw [decide_eq_true rfl] at h2
    rw [← hw2, ← hw]
    exact h2)
  rw [hw] at HSL ⊢
  rw [hw2] at HSF
  have H3 := Lib.hid (three_alloc w A [.bool good, .int .u64 gas, .slice pv ln cv] [.int .u64 x0, .int .u64 x1, .int .u64 x2, .int .u64 x3] 32 38 24)
  obtain ⟨w0, hw0⟩ : ∃ W, ((w.alloc (.cells A.toArray 32)).alloc (.cells #[.bool good, .int .u64 gas, .slice pv ln cv] 38)).alloc (.cells #[.int .u64 x0, .int .u64 x1, .int .u64 x2, .int .u64 x3] 24) = W := ⟨_, rfl⟩
  rw [show ((w.alloc (.cells A.toArray 32)).alloc (.cells ([.bool good, .int .u64 gas, .slice pv ln cv] : List Value).toArray 38)).alloc (.cells ([.int .u64 x0, .int .u64 x1, .int .u64 x2, .int .u64 x3] : List Value).toArray 24) = w0 from hw0] at H3
  have HW0 := Lib.hid hw0
  have HB0 := Lib.hid H3.out.2.2.2.1
  have HQ0 := Lib.hid H3.out.1
  have HR0 := Lib.hid H3.out.2.1
  have HX0 := Lib.hid H3.out.2.2.1
  have HGE := Lib.hid (show (ge = 0 ∧ (ge == 0) = true) ∨ (ge == 0) = false from by by_cases h : ge = 0 <;> simp [h])
  clear hpe hpl hC0 hef f1 f2 f3 f4 g1 g2 g3 g4 hrg hrl he6 hlw hln hw hw2 hsf hsl2 htl hss hw0 hv hn hb hg hu hbu hwt
  go_enter Tryd.func6, Tryd.ntmps6
  go_wp2_with fail
  rw [HW0.out]
  refine (shown16_any _).mono ?_
  rintro e w1 ⟨rfl, hb1⟩
  have HB1 := Lib.hid (HB0.out.trans (hb1.mono HB0.out.size))
  have HQ1 := Lib.hid (HQ0.out.after hb1)
  have HR1 := Lib.hid (HR0.out.after hb1)
  have HX1 := Lib.hid (HX0.out.after hb1)
  clear hb1
  go_wp2_with ((with_reducible refine load_gateK 32 ?_); refine wpList_load_midK (by rfl) 32 _ rfl w.heap.size 0 rfl A _ HQ1.out.range Tryd.underlying32 rfl (by rw [HA.out.2.1]; exact infoAcct) ?_)
  refine (HY.out _).mono ?_
  rintro e w2 ⟨rfl, hb2⟩
  have HB2 := Lib.hid (HB1.out.trans (hb2.mono HB1.out.size))
  have HQ2 := Lib.hid (HQ1.out.after hb2)
  have HR2 := Lib.hid (HR1.out.after hb2)
  have HX2 := Lib.hid (HX1.out.after hb2)
  clear hb2
  go_wp2_with fail
  refine (HF.out _).mono ?_
  rintro e w3 ⟨rfl, hb3⟩
  have HB3 := Lib.hid (HB2.out.trans (hb3.mono HB2.out.size))
  have HQ3 := Lib.hid (HQ2.out.after hb3)
  have HR3 := Lib.hid (HR2.out.after hb3)
  have HX3 := Lib.hid (HX2.out.after hb3)
  clear hb3
  obtain ⟨w4, hw4⟩ : ∃ W, (w3.alloc (.cells acctZ.toArray 32)).setCells w3.heap.size 0 C = W := ⟨_, rfl⟩
  have hb4 : Below w3.heap.size w3 w4 := by rw [← hw4]; exact (laid1 w3 _).trans (sets_belowK (Nat.le_refl _) _ _ _)
  have hq4 : HasCells w4 w3.heap.size C 32 := by
    rw [← hw4]
    have h := (HasCells.new w3 acctZ 32).sets C 0
    rw [HC.out.2.2] at h
    exact h
  have HB4 := Lib.hid (HB3.out.trans (hb4.mono HB3.out.size))
  have HD4 := Lib.hid hq4
  have HWN4 := Lib.hid (show (w3.alloc (.cells #[.int .u64 0, .int .u64 0, .int .u64 0, .int .u64 0, .int .u64 0, .string ⟨#[]⟩, .string ⟨#[]⟩] 32)).setCells w3.heap.size 0 C = w4 from hw4)
  have HQ4 := Lib.hid (HQ3.out.after hb4)
  have HR4 := Lib.hid (HR3.out.after hb4)
  have HX4 := Lib.hid (HX3.out.after hb4)
  clear hw4 hq4 hb4
  obtain ⟨r0, r1, r2⟩ : w4.cell? ⟨w.heap.size + 1, 0, none⟩ = some (.bool good) ∧ w4.cell? ⟨w.heap.size + 1, 1, none⟩ = some (.int .u64 gas) ∧ w4.cell? ⟨w.heap.size + 1, 2, none⟩ = some (.slice pv ln cv) := ⟨HR4.out.cell (j := 0) rfl, HR4.out.cell (j := 1) rfl, HR4.out.cell (j := 2) rfl⟩
  go_wp2_with (first | rw [HWN4.out] | ((with_reducible refine store_gateK 32 ?_); refine wpList_store_mid rfl 32 _ _ rfl w3.heap.size 0 C.toArray rfl rfl ((HasCells.new w3 acctZ 32).there 0 _ (by rw [List.size_toArray, HC.out.2.1]; decide)) (by rw [List.size_toArray, HC.out.2.1]; exact infoAcct) HC.out.1 ?_))
  refine (HRB.out _ HB4.out).mono ?_
  rintro e w5 ⟨rfl, hb5⟩
  have HB5 := Lib.hid (HB4.out.trans (hb5.mono HB4.out.size))
  have HQ5 := Lib.hid (HQ4.out.after hb5)
  have HR5 := Lib.hid (HR4.out.after hb5)
  have HX5 := Lib.hid (HX4.out.after hb5)
  have HD5 := Lib.hid (HD4.out.after hb5)
  clear hb5
  clear r0 r1 r2
  go_wp2_with fail
  refine (HRF.out _).mono ?_
  rintro e w6 ⟨gd, gas2, ls2, v2, rfl, hof, hlg, ⟨p6, n6, c6, rfl⟩, hb6⟩
  have HB6 := Lib.hid (HB5.out.trans (hb6.mono HB5.out.size))
  have HQ6 := Lib.hid (HQ5.out.after hb6)
  have HR6 := Lib.hid (HR5.out.after hb6)
  have HX6 := Lib.hid (HX5.out.after hb6)
  have HD6 := Lib.hid (HD5.out.after hb6)
  clear hb6
  rw [HE6.out]
  obtain ⟨p2, c2, e⟩ := hlg.form
  cases e
  have HLG := Lib.hid hlg
  have HRS := Lib.hid (show ge = 0 → good = gd ∧ gas = gas2 ∧ ls = ls2 ∧ 0 = e6 from fun h => by
    obtain ⟨h1, h2⟩ := HRT.out h
    rw [hof] at h1
    cases h1
    exact ⟨rfl, rfl, rfl, h2.symm⟩)
  clear hof hlg
  obtain ⟨m2, hm2⟩ : ∃ k, ls2.length = k := ⟨_, rfl⟩
  rw [hm2] at HLG ⊢
  have HM2 := Lib.hid hm2
  clear hm2
  have hl7 := laid1 w6 (.cells #[.bool gd, .int .u64 gas2, .slice p6 m2 c6] 38)
  have HL7 := Lib.hid hl7
  have HN7 := Lib.hid (HasCells.new w6 [.bool gd, .int .u64 gas2, .slice p6 m2 c6] 38)
  have HB7 := Lib.hid (HB6.out.trans (hl7.mono HB6.out.size))
  have HQ7 := Lib.hid (HQ6.out.after hl7)
  have HR7 := Lib.hid (HR6.out.after hl7)
  have HX7 := Lib.hid (HX6.out.after hl7)
  have HD7 := Lib.hid (HD6.out.after hl7)
  clear hl7
  obtain ⟨k0, k1, k2, k3⟩ : (w6.alloc (.cells #[.bool gd, .int .u64 gas2, .slice p6 m2 c6] 38)).cell? ⟨w.heap.size + 1 + 1, 0, none⟩ = some (.int .u64 x0) ∧ (w6.alloc (.cells #[.bool gd, .int .u64 gas2, .slice p6 m2 c6] 38)).cell? ⟨w.heap.size + 1 + 1, 1, none⟩ = some (.int .u64 x1) ∧ (w6.alloc (.cells #[.bool gd, .int .u64 gas2, .slice p6 m2 c6] 38)).cell? ⟨w.heap.size + 1 + 1, 2, none⟩ = some (.int .u64 x2) ∧ (w6.alloc (.cells #[.bool gd, .int .u64 gas2, .slice p6 m2 c6] 38)).cell? ⟨w.heap.size + 1 + 1, 3, none⟩ = some (.int .u64 x3) := ⟨HX7.out.cell (j := 0) rfl, HX7.out.cell (j := 1) rfl, HX7.out.cell (j := 2) rfl, HX7.out.cell (j := 3) rfl⟩
  go_wp2_with fail
  clear k0 k1 k2 k3
  refine (HSL.out _).mono ?_
  rintro e w8 ⟨rfl, hb8⟩
  have HB8 := Lib.hid (HB7.out.trans (hb8.mono HB7.out.size))
  have HN8 := Lib.hid (HN7.out.after hb8)
  have HL8 := Lib.hid (HL7.out.trans (hb8.mono HL7.out.size))
  have HQ8 := Lib.hid (HQ7.out.after hb8)
  have HR8 := Lib.hid (HR7.out.after hb8)
  have HX8 := Lib.hid (HX7.out.after hb8)
  have HD8 := Lib.hid (HD7.out.after hb8)
  clear hb8
  go_wp2_with fail
  refine (HSF.out _).mono ?_
  rintro e w9 ⟨rfl, hb9⟩
  have HB9 := Lib.hid (HB8.out.trans (hb9.mono HB8.out.size))
  have HN9 := Lib.hid (HN8.out.after hb9)
  have HL9 := Lib.hid (HL8.out.trans (hb9.mono HL8.out.size))
  have HQ9 := Lib.hid (HQ8.out.after hb9)
  have HR9 := Lib.hid (HR8.out.after hb9)
  have HX9 := Lib.hid (HX8.out.after hb9)
  have HD9 := Lib.hid (HD8.out.after hb9)
  clear hb9
  have hl10 := laid1 w9 (.cells #[.int .u64 y0, .int .u64 y1, .int .u64 y2, .int .u64 y3] 24)
  have HY10 := Lib.hid (HasCells.new w9 [.int .u64 y0, .int .u64 y1, .int .u64 y2, .int .u64 y3] 24)
  have HB10 := Lib.hid (HB9.out.trans (hl10.mono HB9.out.size))
  have HN10 := Lib.hid (HN9.out.after hl10)
  have HL10 := Lib.hid (HL9.out.trans (hl10.mono HL9.out.size))
  have HQ10 := Lib.hid (HQ9.out.after hl10)
  have HR10 := Lib.hid (HR9.out.after hl10)
  have HX10 := Lib.hid (HX9.out.after hl10)
  have HD10 := Lib.hid (HD9.out.after hl10)
  clear hl10
  obtain ⟨w10, hw10⟩ : ∃ W, (w9.alloc (.cells #[.int .u64 y0, .int .u64 y1, .int .u64 y2, .int .u64 y3] 24)) = W := ⟨_, rfl⟩
  rw [hw10] at HB10
  rw [show (w9.alloc (.cells ([.int .u64 y0, .int .u64 y1, .int .u64 y2, .int .u64 y3] : List Value).toArray 24)) = w10 from hw10] at HY10
  rw [hw10] at HN10
  rw [hw10] at HL10
  rw [hw10] at HQ10
  rw [hw10] at HR10
  rw [hw10] at HX10
  rw [hw10] at HD10
  have HW10 := Lib.hid (show (w9.alloc (.cells #[.int .u64 y0, .int .u64 y1, .int .u64 y2, .int .u64 y3] 24)) = w10 from hw10)
  clear hw10
  rcases her with rfl | rfl
  · obtain ⟨hf, hC⟩ := HSAM.out rfl
    subst hf
    have HDA := Lib.hid (show HasCells w10 w3.heap.size A 32 from by rw [← hC]; exact HD10.out)
    clear hC
    rcases HGE.out with hg0 | hg0
    · obtain ⟨hge, hgq⟩ := hg0
      subst hge
      obtain ⟨rfl, rfl, rfl, rfl⟩ := HRS.out rfl
      obtain rfl : ln = m2 := HLN.out.symm.trans HM2.out
      obtain ⟨rr0, rr1, rr2⟩ : w10.cell? ⟨w.heap.size + 1, 0, none⟩ = some (.bool good) ∧ w10.cell? ⟨w.heap.size + 1, 1, none⟩ = some (.int .u64 gas) ∧ w10.cell? ⟨w.heap.size + 1, 2, none⟩ = some (.slice pv ln cv) := ⟨HR10.out.cell (j := 0) rfl, HR10.out.cell (j := 1) rfl, HR10.out.cell (j := 2) rfl⟩
      obtain ⟨rn0, rn1, rn2⟩ : w10.cell? ⟨w6.heap.size, 0, none⟩ = some (.bool good) ∧ w10.cell? ⟨w6.heap.size, 1, none⟩ = some (.int .u64 gas) ∧ w10.cell? ⟨w6.heap.size, 2, none⟩ = some (.slice p6 ln c6) := ⟨HN10.out.cell (j := 0) rfl, HN10.out.cell (j := 1) rfl, HN10.out.cell (j := 2) rfl⟩
      go_wp2_with (first | rw [HW10.out] | ((with_reducible refine load_gateK 24 ?_); refine stop_here ?_) | ((with_reducible refine load_gateK 32 ?_); refine wpList_load_midK (by rfl) 32 _ rfl w.heap.size 0 rfl A _ HQ10.out.range Tryd.underlying32 rfl (by rw [HA.out.2.1]; exact infoAcct) ?_) | ((with_reducible refine load_gateK 32 ?_); refine wpList_load_midK (by rfl) 32 _ rfl w3.heap.size 0 rfl A _ HDA.out.range Tryd.underlying32 rfl (by rw [HA.out.2.1]; exact infoAcct) ?_))
      refine (same_any good gas ls _ _ _ (HV.out.below HB10.out) (HLG.out.below HL10.out) HLS.out.1 HLS.out.2).mono ?_
      rintro e w11 ⟨rfl, hb11⟩
      have HB11 := Lib.hid (HB10.out.trans (hb11.mono HB10.out.size))
      have HX11 := Lib.hid (HX10.out.after hb11)
      have HY11 := Lib.hid (HY10.out.after hb11)
      clear hb11 rr0 rr1 rr2 rn0 rn1 rn2
      obtain ⟨kx0, kx1, kx2, kx3⟩ : w11.cell? ⟨w.heap.size + 1 + 1, 0, none⟩ = some (.int .u64 x0) ∧ w11.cell? ⟨w.heap.size + 1 + 1, 1, none⟩ = some (.int .u64 x1) ∧ w11.cell? ⟨w.heap.size + 1 + 1, 2, none⟩ = some (.int .u64 x2) ∧ w11.cell? ⟨w.heap.size + 1 + 1, 3, none⟩ = some (.int .u64 x3) := ⟨HX11.out.cell (j := 0) rfl, HX11.out.cell (j := 1) rfl, HX11.out.cell (j := 2) rfl, HX11.out.cell (j := 3) rfl⟩
      obtain ⟨ky0, ky1, ky2, ky3⟩ : w11.cell? ⟨w9.heap.size, 0, none⟩ = some (.int .u64 y0) ∧ w11.cell? ⟨w9.heap.size, 1, none⟩ = some (.int .u64 y1) ∧ w11.cell? ⟨w9.heap.size, 2, none⟩ = some (.int .u64 y2) ∧ w11.cell? ⟨w9.heap.size, 3, none⟩ = some (.int .u64 y3) := ⟨HY11.out.cell (j := 0) rfl, HY11.out.cell (j := 1) rfl, HY11.out.cell (j := 2) rfl, HY11.out.cell (j := 3) rfl⟩
      go_wp2_with ((with_reducible refine load_gateK 24 ?_); refine stop_here ?_)
      refine Lib.hid ?_
      rename_i K1 hK1 K0 hK0
      have hK : ∀ (u0 u1 u2 u4 u5 u6 u7 u8 u10 u11 u12 u13 u14 u15 u16 u17 u18 u19 u20 u21 u22 u23 u24 u25 u26 u27 u28 u29 u30 u31 u32 u33 u34 u35 u36 u37 u38 u39 u40 u41 u42 u43 u44 u45 u46 u47 u48 u49 u50 u51 u52 u53 u54 u55 u56 u57 u58 u59 u60 u61 u62 u63 u64 u65 u66 u67 u68 u69 u70 u71 u72 u73 u74 u75 u76 u77 u78 u79 u80 u81 u82 u83 u84 u85 u86 u87 u88 u89 u90 u91 u92 u93 u94 u95 u96 u97 u98 u99 u100 u101 u102 u103 u104 u105 u106 u107 u108 u109 u110 u111 u112 u113 u114 u115 u116 u117 u118 u119 u120 u121 u122 u123 u124 u125 u126 u127 u128 u129 u130 u131 u132 u133 u134 u135 u136 u137 u138 u139 u140 u141 u142 u143 u144 u145 u146 u147 u148 u149 u150 u151 u152 u153 u154 u155 u156 u157 : Value) (W : World), Hid (Below w.heap.size w W) → K1 ⟨#[u0, u1, u2, .string s, u4, u5, u6, u7, u8, .bool true, u10, u11, u12, u13, u14, u15, u16, u17, u18, u19, u20, u21, u22, u23, u24, u25, u26, u27, u28, u29, u30, u31, u32, u33, u34, u35, u36, u37, u38, u39, u40, u41, u42, u43, u44, u45, u46, u47, u48, u49, u50, u51, u52, u53, u54, u55, u56, u57, u58, u59, u60, u61, u62, u63, u64, u65, u66, u67, u68, u69, u70, u71, u72, u73, u74, u75, u76, u77, u78, u79, u80, u81, u82, u83, u84, u85, u86, u87, u88, u89, u90, u91, u92, u93, u94, u95, u96, u97, u98, u99, u100, u101, u102, u103, u104, u105, u106, u107, u108, u109, u110, u111, u112, u113, u114, u115, u116, u117, u118, u119, u120, u121, u122, u123, u124, u125, u126, u127, u128, u129, u130, u131, u132, u133, u134, u135, u136, u137, u138, u139, u140, u141, u142, u143, u144, u145, u146, u147, u148, u149, u150, u151, u152, u153, u154, u155, u156, u157], []⟩ W := fun u0 u1 u2 u4 u5 u6 u7 u8 u10 u11 u12 u13 u14 u15 u16 u17 u18 u19 u20 u21 u22 u23 u24 u25 u26 u27 u28 u29 u30 u31 u32 u33 u34 u35 u36 u37 u38 u39 u40 u41 u42 u43 u44 u45 u46 u47 u48 u49 u50 u51 u52 u53 u54 u55 u56 u57 u58 u59 u60 u61 u62 u63 u64 u65 u66 u67 u68 u69 u70 u71 u72 u73 u74 u75 u76 u77 u78 u79 u80 u81 u82 u83 u84 u85 u86 u87 u88 u89 u90 u91 u92 u93 u94 u95 u96 u97 u98 u99 u100 u101 u102 u103 u104 u105 u106 u107 u108 u109 u110 u111 u112 u113 u114 u115 u116 u117 u118 u119 u120 u121 u122 u123 u124 u125 u126 u127 u128 u129 u130 u131 u132 u133 u134 u135 u136 u137 u138 u139 u140 u141 u142 u143 u144 u145 u146 u147 u148 u149 u150 u151 u152 u153 u154 u155 u156 u157 W hb => hK1 _ _ (by have h := back_rest s w u0 u1 u2 u4 u5 u6 u7 u8 u10 u11 u12 u13 u14 u15 u16 u17 u18 u19 u20 u21 u22 u23 u24 u25 u26 u27 u28 u29 u30 u31 u32 u33 u34 u35 u36 u37 u38 u39 u40 u41 u42 u43 u44 u45 u46 u47 u48 u49 u50 u51 u52 u53 u54 u55 u56 u57 u58 u59 u60 u61 u62 u63 u64 u65 u66 u67 u68 u69 u70 u71 u72 u73 u74 u75 u76 u77 u78 u79 u80 u81 u82 u83 u84 u85 u86 u87 u88 u89 u90 u91 u92 u93 u94 u95 u96 u97 u98 u99 u100 u101 u102 u103 u104 u105 u106 u107 u108 u109 u110 u111 u112 u113 u114 u115 u116 u117 u118 u119 u120 u121 u122 u123 u124 u125 u126 u127 u128 u129 u130 u131 u132 u133 u134 u135 u136 u137 u138 u139 u140 u141 u142 u143 u144 u145 u146 u147 u148 u149 u150 u151 u152 u153 u154 u155 u156 u157 W hb hs; dsimp only [backRest, Tryd.f6] at h; exact h)
      clear hK1
      cases bu with
      | false =>
        obtain ⟨rfl, hq1⟩ := HSE.out rfl
        go_wp2_with fail
      | true =>
        go_wp2_with fail
        exact HB11
    · obtain ⟨kx0, kx1, kx2, kx3⟩ : w10.cell? ⟨w.heap.size + 1 + 1, 0, none⟩ = some (.int .u64 x0) ∧ w10.cell? ⟨w.heap.size + 1 + 1, 1, none⟩ = some (.int .u64 x1) ∧ w10.cell? ⟨w.heap.size + 1 + 1, 2, none⟩ = some (.int .u64 x2) ∧ w10.cell? ⟨w.heap.size + 1 + 1, 3, none⟩ = some (.int .u64 x3) := ⟨HX10.out.cell (j := 0) rfl, HX10.out.cell (j := 1) rfl, HX10.out.cell (j := 2) rfl, HX10.out.cell (j := 3) rfl⟩
      obtain ⟨ky0, ky1, ky2, ky3⟩ : w10.cell? ⟨w9.heap.size, 0, none⟩ = some (.int .u64 y0) ∧ w10.cell? ⟨w9.heap.size, 1, none⟩ = some (.int .u64 y1) ∧ w10.cell? ⟨w9.heap.size, 2, none⟩ = some (.int .u64 y2) ∧ w10.cell? ⟨w9.heap.size, 3, none⟩ = some (.int .u64 y3) := ⟨HY10.out.cell (j := 0) rfl, HY10.out.cell (j := 1) rfl, HY10.out.cell (j := 2) rfl, HY10.out.cell (j := 3) rfl⟩
      go_wp2_with (first | rw [HW10.out] | ((with_reducible refine load_gateK 24 ?_); refine stop_here ?_) | ((with_reducible refine load_gateK 32 ?_); refine wpList_load_midK (by rfl) 32 _ rfl w.heap.size 0 rfl A _ HQ10.out.range Tryd.underlying32 rfl (by rw [HA.out.2.1]; exact infoAcct) ?_) | ((with_reducible refine load_gateK 32 ?_); refine wpList_load_midK (by rfl) 32 _ rfl w3.heap.size 0 rfl A _ HDA.out.range Tryd.underlying32 rfl (by rw [HA.out.2.1]; exact infoAcct) ?_))
      refine Lib.hid ?_
      rename_i K1 hK1 K0 hK0
      have hK : ∀ (u0 u1 u2 u4 u5 u6 u7 u8 u10 u11 u12 u13 u14 u15 u16 u17 u18 u19 u20 u21 u22 u23 u24 u25 u26 u27 u28 u29 u30 u31 u32 u33 u34 u35 u36 u37 u38 u39 u40 u41 u42 u43 u44 u45 u46 u47 u48 u49 u50 u51 u52 u53 u54 u55 u56 u57 u58 u59 u60 u61 u62 u63 u64 u65 u66 u67 u68 u69 u70 u71 u72 u73 u74 u75 u76 u77 u78 u79 u80 u81 u82 u83 u84 u85 u86 u87 u88 u89 u90 u91 u92 u93 u94 u95 u96 u97 u98 u99 u100 u101 u102 u103 u104 u105 u106 u107 u108 u109 u110 u111 u112 u113 u114 u115 u116 u117 u118 u119 u120 u121 u122 u123 u124 u125 u126 u127 u128 u129 u130 u131 u132 u133 u134 u135 u136 u137 u138 u139 u140 u141 u142 u143 u144 u145 u146 u147 u148 u149 u150 u151 u152 u153 u154 u155 u156 u157 : Value) (W : World), Hid (Below w.heap.size w W) → K1 ⟨#[u0, u1, u2, .string s, u4, u5, u6, u7, u8, .bool true, u10, u11, u12, u13, u14, u15, u16, u17, u18, u19, u20, u21, u22, u23, u24, u25, u26, u27, u28, u29, u30, u31, u32, u33, u34, u35, u36, u37, u38, u39, u40, u41, u42, u43, u44, u45, u46, u47, u48, u49, u50, u51, u52, u53, u54, u55, u56, u57, u58, u59, u60, u61, u62, u63, u64, u65, u66, u67, u68, u69, u70, u71, u72, u73, u74, u75, u76, u77, u78, u79, u80, u81, u82, u83, u84, u85, u86, u87, u88, u89, u90, u91, u92, u93, u94, u95, u96, u97, u98, u99, u100, u101, u102, u103, u104, u105, u106, u107, u108, u109, u110, u111, u112, u113, u114, u115, u116, u117, u118, u119, u120, u121, u122, u123, u124, u125, u126, u127, u128, u129, u130, u131, u132, u133, u134, u135, u136, u137, u138, u139, u140, u141, u142, u143, u144, u145, u146, u147, u148, u149, u150, u151, u152, u153, u154, u155, u156, u157], []⟩ W := fun u0 u1 u2 u4 u5 u6 u7 u8 u10 u11 u12 u13 u14 u15 u16 u17 u18 u19 u20 u21 u22 u23 u24 u25 u26 u27 u28 u29 u30 u31 u32 u33 u34 u35 u36 u37 u38 u39 u40 u41 u42 u43 u44 u45 u46 u47 u48 u49 u50 u51 u52 u53 u54 u55 u56 u57 u58 u59 u60 u61 u62 u63 u64 u65 u66 u67 u68 u69 u70 u71 u72 u73 u74 u75 u76 u77 u78 u79 u80 u81 u82 u83 u84 u85 u86 u87 u88 u89 u90 u91 u92 u93 u94 u95 u96 u97 u98 u99 u100 u101 u102 u103 u104 u105 u106 u107 u108 u109 u110 u111 u112 u113 u114 u115 u116 u117 u118 u119 u120 u121 u122 u123 u124 u125 u126 u127 u128 u129 u130 u131 u132 u133 u134 u135 u136 u137 u138 u139 u140 u141 u142 u143 u144 u145 u146 u147 u148 u149 u150 u151 u152 u153 u154 u155 u156 u157 W hb => hK1 _ _ (by have h := back_rest s w u0 u1 u2 u4 u5 u6 u7 u8 u10 u11 u12 u13 u14 u15 u16 u17 u18 u19 u20 u21 u22 u23 u24 u25 u26 u27 u28 u29 u30 u31 u32 u33 u34 u35 u36 u37 u38 u39 u40 u41 u42 u43 u44 u45 u46 u47 u48 u49 u50 u51 u52 u53 u54 u55 u56 u57 u58 u59 u60 u61 u62 u63 u64 u65 u66 u67 u68 u69 u70 u71 u72 u73 u74 u75 u76 u77 u78 u79 u80 u81 u82 u83 u84 u85 u86 u87 u88 u89 u90 u91 u92 u93 u94 u95 u96 u97 u98 u99 u100 u101 u102 u103 u104 u105 u106 u107 u108 u109 u110 u111 u112 u113 u114 u115 u116 u117 u118 u119 u120 u121 u122 u123 u124 u125 u126 u127 u128 u129 u130 u131 u132 u133 u134 u135 u136 u137 u138 u139 u140 u141 u142 u143 u144 u145 u146 u147 u148 u149 u150 u151 u152 u153 u154 u155 u156 u157 W hb hs; dsimp only [backRest, Tryd.f6] at h; exact h)
      clear hK1
      cases bu with
      | false =>
        obtain ⟨rfl, hq1⟩ := HSE.out rfl
        go_wp2_with fail
      | true =>
        go_wp2_with fail
        exact HB10
  · rcases HGE.out with hg0 | hg0
    · obtain ⟨hge, hgq⟩ := hg0
      subst hge
      obtain ⟨rfl, rfl, rfl, rfl⟩ := HRS.out rfl
      obtain rfl : ln = m2 := HLN.out.symm.trans HM2.out
      obtain ⟨rr0, rr1, rr2⟩ : w10.cell? ⟨w.heap.size + 1, 0, none⟩ = some (.bool good) ∧ w10.cell? ⟨w.heap.size + 1, 1, none⟩ = some (.int .u64 gas) ∧ w10.cell? ⟨w.heap.size + 1, 2, none⟩ = some (.slice pv ln cv) := ⟨HR10.out.cell (j := 0) rfl, HR10.out.cell (j := 1) rfl, HR10.out.cell (j := 2) rfl⟩
      obtain ⟨rn0, rn1, rn2⟩ : w10.cell? ⟨w6.heap.size, 0, none⟩ = some (.bool good) ∧ w10.cell? ⟨w6.heap.size, 1, none⟩ = some (.int .u64 gas) ∧ w10.cell? ⟨w6.heap.size, 2, none⟩ = some (.slice p6 ln c6) := ⟨HN10.out.cell (j := 0) rfl, HN10.out.cell (j := 1) rfl, HN10.out.cell (j := 2) rfl⟩
      go_wp2_with (first | rw [HW10.out] | ((with_reducible refine load_gateK 24 ?_); refine stop_here ?_))
      refine (same_any good gas ls _ _ _ (HV.out.below HB10.out) (HLG.out.below HL10.out) HLS.out.1 HLS.out.2).mono ?_
      rintro e w11 ⟨rfl, hb11⟩
      have HB11 := Lib.hid (HB10.out.trans (hb11.mono HB10.out.size))
      have HX11 := Lib.hid (HX10.out.after hb11)
      have HY11 := Lib.hid (HY10.out.after hb11)
      clear hb11 rr0 rr1 rr2 rn0 rn1 rn2
      obtain ⟨kx0, kx1, kx2, kx3⟩ : w11.cell? ⟨w.heap.size + 1 + 1, 0, none⟩ = some (.int .u64 x0) ∧ w11.cell? ⟨w.heap.size + 1 + 1, 1, none⟩ = some (.int .u64 x1) ∧ w11.cell? ⟨w.heap.size + 1 + 1, 2, none⟩ = some (.int .u64 x2) ∧ w11.cell? ⟨w.heap.size + 1 + 1, 3, none⟩ = some (.int .u64 x3) := ⟨HX11.out.cell (j := 0) rfl, HX11.out.cell (j := 1) rfl, HX11.out.cell (j := 2) rfl, HX11.out.cell (j := 3) rfl⟩
      obtain ⟨ky0, ky1, ky2, ky3⟩ : w11.cell? ⟨w9.heap.size, 0, none⟩ = some (.int .u64 y0) ∧ w11.cell? ⟨w9.heap.size, 1, none⟩ = some (.int .u64 y1) ∧ w11.cell? ⟨w9.heap.size, 2, none⟩ = some (.int .u64 y2) ∧ w11.cell? ⟨w9.heap.size, 3, none⟩ = some (.int .u64 y3) := ⟨HY11.out.cell (j := 0) rfl, HY11.out.cell (j := 1) rfl, HY11.out.cell (j := 2) rfl, HY11.out.cell (j := 3) rfl⟩
      go_wp2_with ((with_reducible refine load_gateK 24 ?_); refine stop_here ?_)
      refine Lib.hid ?_
      rename_i K1 hK1 K0 hK0
      have hK : ∀ (u0 u1 u2 u4 u5 u6 u7 u8 u10 u11 u12 u13 u14 u15 u16 u17 u18 u19 u20 u21 u22 u23 u24 u25 u26 u27 u28 u29 u30 u31 u32 u33 u34 u35 u36 u37 u38 u39 u40 u41 u42 u43 u44 u45 u46 u47 u48 u49 u50 u51 u52 u53 u54 u55 u56 u57 u58 u59 u60 u61 u62 u63 u64 u65 u66 u67 u68 u69 u70 u71 u72 u73 u74 u75 u76 u77 u78 u79 u80 u81 u82 u83 u84 u85 u86 u87 u88 u89 u90 u91 u92 u93 u94 u95 u96 u97 u98 u99 u100 u101 u102 u103 u104 u105 u106 u107 u108 u109 u110 u111 u112 u113 u114 u115 u116 u117 u118 u119 u120 u121 u122 u123 u124 u125 u126 u127 u128 u129 u130 u131 u132 u133 u134 u135 u136 u137 u138 u139 u140 u141 u142 u143 u144 u145 u146 u147 u148 u149 u150 u151 u152 u153 u154 u155 u156 u157 : Value) (W : World), Hid (Below w.heap.size w W) → K1 ⟨#[u0, u1, u2, .string s, u4, u5, u6, u7, u8, .bool true, u10, u11, u12, u13, u14, u15, u16, u17, u18, u19, u20, u21, u22, u23, u24, u25, u26, u27, u28, u29, u30, u31, u32, u33, u34, u35, u36, u37, u38, u39, u40, u41, u42, u43, u44, u45, u46, u47, u48, u49, u50, u51, u52, u53, u54, u55, u56, u57, u58, u59, u60, u61, u62, u63, u64, u65, u66, u67, u68, u69, u70, u71, u72, u73, u74, u75, u76, u77, u78, u79, u80, u81, u82, u83, u84, u85, u86, u87, u88, u89, u90, u91, u92, u93, u94, u95, u96, u97, u98, u99, u100, u101, u102, u103, u104, u105, u106, u107, u108, u109, u110, u111, u112, u113, u114, u115, u116, u117, u118, u119, u120, u121, u122, u123, u124, u125, u126, u127, u128, u129, u130, u131, u132, u133, u134, u135, u136, u137, u138, u139, u140, u141, u142, u143, u144, u145, u146, u147, u148, u149, u150, u151, u152, u153, u154, u155, u156, u157], []⟩ W := fun u0 u1 u2 u4 u5 u6 u7 u8 u10 u11 u12 u13 u14 u15 u16 u17 u18 u19 u20 u21 u22 u23 u24 u25 u26 u27 u28 u29 u30 u31 u32 u33 u34 u35 u36 u37 u38 u39 u40 u41 u42 u43 u44 u45 u46 u47 u48 u49 u50 u51 u52 u53 u54 u55 u56 u57 u58 u59 u60 u61 u62 u63 u64 u65 u66 u67 u68 u69 u70 u71 u72 u73 u74 u75 u76 u77 u78 u79 u80 u81 u82 u83 u84 u85 u86 u87 u88 u89 u90 u91 u92 u93 u94 u95 u96 u97 u98 u99 u100 u101 u102 u103 u104 u105 u106 u107 u108 u109 u110 u111 u112 u113 u114 u115 u116 u117 u118 u119 u120 u121 u122 u123 u124 u125 u126 u127 u128 u129 u130 u131 u132 u133 u134 u135 u136 u137 u138 u139 u140 u141 u142 u143 u144 u145 u146 u147 u148 u149 u150 u151 u152 u153 u154 u155 u156 u157 W hb => hK1 _ _ (by have h := back_rest s w u0 u1 u2 u4 u5 u6 u7 u8 u10 u11 u12 u13 u14 u15 u16 u17 u18 u19 u20 u21 u22 u23 u24 u25 u26 u27 u28 u29 u30 u31 u32 u33 u34 u35 u36 u37 u38 u39 u40 u41 u42 u43 u44 u45 u46 u47 u48 u49 u50 u51 u52 u53 u54 u55 u56 u57 u58 u59 u60 u61 u62 u63 u64 u65 u66 u67 u68 u69 u70 u71 u72 u73 u74 u75 u76 u77 u78 u79 u80 u81 u82 u83 u84 u85 u86 u87 u88 u89 u90 u91 u92 u93 u94 u95 u96 u97 u98 u99 u100 u101 u102 u103 u104 u105 u106 u107 u108 u109 u110 u111 u112 u113 u114 u115 u116 u117 u118 u119 u120 u121 u122 u123 u124 u125 u126 u127 u128 u129 u130 u131 u132 u133 u134 u135 u136 u137 u138 u139 u140 u141 u142 u143 u144 u145 u146 u147 u148 u149 u150 u151 u152 u153 u154 u155 u156 u157 W hb hs; dsimp only [backRest, Tryd.f6] at h; exact h)
      clear hK1
      cases bu with
      | false =>
        obtain ⟨rfl, hq1⟩ := HSE.out rfl
        go_wp2_with fail
      | true =>
        go_wp2_with fail
        exact HB11
    · obtain ⟨kx0, kx1, kx2, kx3⟩ : w10.cell? ⟨w.heap.size + 1 + 1, 0, none⟩ = some (.int .u64 x0) ∧ w10.cell? ⟨w.heap.size + 1 + 1, 1, none⟩ = some (.int .u64 x1) ∧ w10.cell? ⟨w.heap.size + 1 + 1, 2, none⟩ = some (.int .u64 x2) ∧ w10.cell? ⟨w.heap.size + 1 + 1, 3, none⟩ = some (.int .u64 x3) := ⟨HX10.out.cell (j := 0) rfl, HX10.out.cell (j := 1) rfl, HX10.out.cell (j := 2) rfl, HX10.out.cell (j := 3) rfl⟩
      obtain ⟨ky0, ky1, ky2, ky3⟩ : w10.cell? ⟨w9.heap.size, 0, none⟩ = some (.int .u64 y0) ∧ w10.cell? ⟨w9.heap.size, 1, none⟩ = some (.int .u64 y1) ∧ w10.cell? ⟨w9.heap.size, 2, none⟩ = some (.int .u64 y2) ∧ w10.cell? ⟨w9.heap.size, 3, none⟩ = some (.int .u64 y3) := ⟨HY10.out.cell (j := 0) rfl, HY10.out.cell (j := 1) rfl, HY10.out.cell (j := 2) rfl, HY10.out.cell (j := 3) rfl⟩
      go_wp2_with (first | rw [HW10.out] | ((with_reducible refine load_gateK 24 ?_); refine stop_here ?_))
      refine Lib.hid ?_
      rename_i K1 hK1 K0 hK0
      have hK : ∀ (u0 u1 u2 u4 u5 u6 u7 u8 u10 u11 u12 u13 u14 u15 u16 u17 u18 u19 u20 u21 u22 u23 u24 u25 u26 u27 u28 u29 u30 u31 u32 u33 u34 u35 u36 u37 u38 u39 u40 u41 u42 u43 u44 u45 u46 u47 u48 u49 u50 u51 u52 u53 u54 u55 u56 u57 u58 u59 u60 u61 u62 u63 u64 u65 u66 u67 u68 u69 u70 u71 u72 u73 u74 u75 u76 u77 u78 u79 u80 u81 u82 u83 u84 u85 u86 u87 u88 u89 u90 u91 u92 u93 u94 u95 u96 u97 u98 u99 u100 u101 u102 u103 u104 u105 u106 u107 u108 u109 u110 u111 u112 u113 u114 u115 u116 u117 u118 u119 u120 u121 u122 u123 u124 u125 u126 u127 u128 u129 u130 u131 u132 u133 u134 u135 u136 u137 u138 u139 u140 u141 u142 u143 u144 u145 u146 u147 u148 u149 u150 u151 u152 u153 u154 u155 u156 u157 : Value) (W : World), Hid (Below w.heap.size w W) → K1 ⟨#[u0, u1, u2, .string s, u4, u5, u6, u7, u8, .bool true, u10, u11, u12, u13, u14, u15, u16, u17, u18, u19, u20, u21, u22, u23, u24, u25, u26, u27, u28, u29, u30, u31, u32, u33, u34, u35, u36, u37, u38, u39, u40, u41, u42, u43, u44, u45, u46, u47, u48, u49, u50, u51, u52, u53, u54, u55, u56, u57, u58, u59, u60, u61, u62, u63, u64, u65, u66, u67, u68, u69, u70, u71, u72, u73, u74, u75, u76, u77, u78, u79, u80, u81, u82, u83, u84, u85, u86, u87, u88, u89, u90, u91, u92, u93, u94, u95, u96, u97, u98, u99, u100, u101, u102, u103, u104, u105, u106, u107, u108, u109, u110, u111, u112, u113, u114, u115, u116, u117, u118, u119, u120, u121, u122, u123, u124, u125, u126, u127, u128, u129, u130, u131, u132, u133, u134, u135, u136, u137, u138, u139, u140, u141, u142, u143, u144, u145, u146, u147, u148, u149, u150, u151, u152, u153, u154, u155, u156, u157], []⟩ W := fun u0 u1 u2 u4 u5 u6 u7 u8 u10 u11 u12 u13 u14 u15 u16 u17 u18 u19 u20 u21 u22 u23 u24 u25 u26 u27 u28 u29 u30 u31 u32 u33 u34 u35 u36 u37 u38 u39 u40 u41 u42 u43 u44 u45 u46 u47 u48 u49 u50 u51 u52 u53 u54 u55 u56 u57 u58 u59 u60 u61 u62 u63 u64 u65 u66 u67 u68 u69 u70 u71 u72 u73 u74 u75 u76 u77 u78 u79 u80 u81 u82 u83 u84 u85 u86 u87 u88 u89 u90 u91 u92 u93 u94 u95 u96 u97 u98 u99 u100 u101 u102 u103 u104 u105 u106 u107 u108 u109 u110 u111 u112 u113 u114 u115 u116 u117 u118 u119 u120 u121 u122 u123 u124 u125 u126 u127 u128 u129 u130 u131 u132 u133 u134 u135 u136 u137 u138 u139 u140 u141 u142 u143 u144 u145 u146 u147 u148 u149 u150 u151 u152 u153 u154 u155 u156 u157 W hb => hK1 _ _ (by have h := back_rest s w u0 u1 u2 u4 u5 u6 u7 u8 u10 u11 u12 u13 u14 u15 u16 u17 u18 u19 u20 u21 u22 u23 u24 u25 u26 u27 u28 u29 u30 u31 u32 u33 u34 u35 u36 u37 u38 u39 u40 u41 u42 u43 u44 u45 u46 u47 u48 u49 u50 u51 u52 u53 u54 u55 u56 u57 u58 u59 u60 u61 u62 u63 u64 u65 u66 u67 u68 u69 u70 u71 u72 u73 u74 u75 u76 u77 u78 u79 u80 u81 u82 u83 u84 u85 u86 u87 u88 u89 u90 u91 u92 u93 u94 u95 u96 u97 u98 u99 u100 u101 u102 u103 u104 u105 u106 u107 u108 u109 u110 u111 u112 u113 u114 u115 u116 u117 u118 u119 u120 u121 u122 u123 u124 u125 u126 u127 u128 u129 u130 u131 u132 u133 u134 u135 u136 u137 u138 u139 u140 u141 u142 u143 u144 u145 u146 u147 u148 u149 u150 u151 u152 u153 u154 u155 u156 u157 W hb hs; dsimp only [backRest, Tryd.f6] at h; exact h)
      clear hK1
      cases bu with
      | false =>
        obtain ⟨rfl, hq1⟩ := HSE.out rfl
        go_wp2_with fail
      | true =>
        go_wp2_with fail
        exact HB10
end Go.Proofs.YtmjblnhnadffmaaDoor
