/- What the walks take: PshB, TrgB, FouK, FewP. -/
import Derived.Test.YthicdhnjincflaaGreatDoorU0
import Derived.Test.YthicdhnjincflaaGreatDoorU4
import Derived.Test.YthicdhnjincflaaGreatDoorU14
import Derived.Test.YthicdhnjincflaaGreatDoorU20
import Derived.Test.YthicdhnjincflaaGreatDoorU22
import Derived.Test.YthicdhnjincflaaGreatDoorU25
import Derived.Laws.AppendOwnNone
import Derived.Laws.OwnMore
namespace Go.Proofs.YthicdhnjincflaaGreatDoor
open Go.RowKit
def fourP : List PairD := [([100, 111], [118, 101, 114, 98]), ([100, 111, 103], [112, 117, 112, 112, 121]), ([100, 111, 103, 101], [99, 111, 105, 110]), ([104, 111, 114, 115, 101], [115, 116, 97, 108, 108, 105, 111, 110])]
theorem four_right : rightP fourP = true := by decide
theorem four_root : rootR fourP = (rootP keccakL fourP, 0) := by unfold rootR; rw [if_pos four_right]
theorem four_prove (key : List UInt8) : proveR fourP key = (wayP keccakL 129 fourP 0 (halves key), 0) := by unfold proveR; rw [if_pos four_right]; rfl
theorem four_dog : checkP keccakL (rootP keccakL fourP) [100, 111, 103] (wayP keccakL 129 fourP 0 (halves [100, 111, 103])) = ([112, 117, 112, 112, 121], 0) := by
  have h := check_way (K := keccakL) keccakL_length four_right (by decide) (show keyOk [100, 111, 103] = true from rfl) [] (fun s hs => by cases hs) (by decide)
  rw [List.append_nil, if_pos rfl, show lookupP fourP (halves [100, 111, 103]) = [112, 117, 112, 112, 121] by decide] at h
  exact h
theorem four_cat : checkP keccakL (rootP keccakL fourP) [99, 97, 116] (wayP keccakL 129 fourP 0 (halves [99, 97, 116])) = ([], 0) := by
  have h := check_way (K := keccakL) keccakL_length four_right (by decide) (show keyOk [99, 97, 116] = true from rfl) [] (fun s hs => by cases hs) (by decide)
  rw [List.append_nil, if_pos rfl, show lookupP fourP (halves [99, 97, 116]) = [] by decide] at h
  exact h
theorem four_more : checkP keccakL (rootP keccakL fourP) [100, 111, 103] (wayP keccakL 129 fourP 0 (halves [100, 111, 103]) ++ [[120]]) = ([], 70) := by
  have h := check_way (K := keccakL) keccakL_length four_right (by decide) (show keyOk [100, 111, 103] = true from rfl) [[120]] (fun s hs => by rw [List.mem_singleton.1 hs]; decide) (by decide)
  rwa [if_neg (by decide)] at h
theorem four_way_len (key : List UInt8) : (wayP keccakL 129 fourP 0 (halves key)).length ≤ 129 := by
  obtain ⟨hv, hr⟩ := right_valid four_right (by decide)
  exact (way_len (K := keccakL) keccakL_length 129 fourP 0 (halves key) hv hr (by omega) (isPath_halves key) (Nat.zero_le _) (along_zero _ _)).1
end Go.Proofs.YthicdhnjincflaaGreatDoor
/- Contracts of pharoslaw07's four and some. -/
namespace Go.Proofs.YthicdhnjincflaaGreatDoor
open Go.RowKit Go.Shelf Go.Lib
attribute [local go_sem] Oper.semAt_some
set_option maxRecDepth 100000 in
set_option maxHeartbeats 1600000 in
theorem four_any (w : World) : Calls Tryz.prog 21 #[] w fun e w' => (∃ v, e = .returned v ∧ Pairs w' v fourP) ∧ Below w.heap.size w w' := by
  have hc := HasCells.new w [.string ⟨#[100, 111]⟩, .string ⟨#[118, 101, 114, 98]⟩, .string ⟨#[100, 111, 103]⟩, .string ⟨#[112, 117, 112, 112, 121]⟩, .string ⟨#[100, 111, 103, 101]⟩, .string ⟨#[99, 111, 105, 110]⟩, .string ⟨#[104, 111, 114, 115, 101]⟩, .string ⟨#[115, 116, 97, 108, 108, 105, 111, 110]⟩] 40
  have HC := Lib.hid hc
  clear hc
  go_enter Tryz.func21, Tryz.ntmps21
  go_wp2_with fail
  go_ret
  refine ⟨⟨_, rfl, _, _, rfl, Nat.le_refl _, .inr ⟨_, 0, rfl, HC.out.lt, ?_⟩⟩, laid1 w _⟩
  intro j q hq
  have hlt := (List.getElem?_eq_some_iff.1 hq).1
  have hj : j < 4 := hlt
  match j, hj, hq with
  | 0, _, hq => cases hq; exact ⟨HC.out.cell (j := 0) rfl, HC.out.cell (j := 1) rfl⟩
  | 1, _, hq => cases hq; exact ⟨HC.out.cell (j := 2) rfl, HC.out.cell (j := 3) rfl⟩
  | 2, _, hq => cases hq; exact ⟨HC.out.cell (j := 4) rfl, HC.out.cell (j := 5) rfl⟩
  | 3, _, hq => cases hq; exact ⟨HC.out.cell (j := 6) rfl, HC.out.cell (j := 7) rfl⟩
theorem extract_bt (s : List UInt8) (m : Nat) : (⟨s.toArray⟩ : ByteArray).extract 0 m = ⟨(s.take m).toArray⟩ := by
  apply ByteArray.ext
  rw [ByteArray.data_extract]
  simp
theorem take_minL (s : List UInt8) (k : Nat) : s.take (min s.length k) = s.take k := by
  rcases Nat.le_total s.length k with h | h
  · rw [Nat.min_eq_left h, List.take_of_length_le (Nat.le_refl _), List.take_of_length_le h]
  · rw [Nat.min_eq_right h]
end Go.Proofs.YthicdhnjincflaaGreatDoor
/- pharoslaw07's shown holds; rows of texts that a call owns, behind each other. -/
namespace Go.Proofs.YthicdhnjincflaaGreatDoor
open Go.RowKit Go.Shelf Go.Lib
attribute [local go_sem] Oper.semAt_some
theorem OwnS.lit (w : World) (base : Nat) (l : List ByteArray) (hb : base ≤ w.heap.size) (hn : l.length ≤ 1099511627776) : OwnS base (w.alloc (.cells (l.map Value.string).toArray 9)) (.slice (some ⟨w.heap.size, 0, none⟩) l.length l.length) l := by
  have h := World.ownsRow_lit (e := 9) (size := 1) w (l.map Value.string).toArray l.length hb (by unfold maxLen; omega) (by simp)
  unfold OwnS
  simpa using h
theorem OwnS.drew {base : Nat} {w : World} {v : Value} {l : List ByteArray} (h : OwnS base w v l) : OwnS base w.drew v l := h
set_option maxRecDepth 100000 in
set_option maxHeartbeats 6400000 in
theorem shown07_any (w : World) (hK : KecT w) : Calls Tryz.prog 11 #[] w fun e w' => e = .returned (.bool true) ∧ Below w.heap.size w w' := by
  obtain ⟨rt, hrt⟩ : ∃ x, rootP keccakL fourP = x := ⟨_, rfl⟩
  obtain ⟨wd, hwd⟩ : ∃ x, wayP keccakL 129 fourP 0 (halves [100, 111, 103]) = x := ⟨_, rfl⟩
  obtain ⟨wc, hwc⟩ : ∃ x, wayP keccakL 129 fourP 0 (halves [99, 97, 116]) = x := ⟨_, rfl⟩
  have hl1 : wd.length ≤ 129 := by rw [← hwd]; exact four_way_len _
  have hl2 : wc.length ≤ 129 := by rw [← hwc]; exact four_way_len _
  have k1 := four_dog
  have k2 := four_cat
  have k3 := four_more
  rw [hrt, hwd] at k1 k3
  rw [hrt, hwc] at k2
  have HR : Hid (∀ v W, Pairs W v fourP → Calls Tryz.prog 8 #[v] W fun e w' => e = .returned (.tuple #[.string ⟨rt.toArray⟩, .int .i64 0]) ∧ Below W.heap.size W w') := Lib.hid fun v W hp => by
    have h := rootRef_any fourP v W hp (by decide)
    rw [four_root, hrt] at h
    exact h
  have HD : Hid (∀ v W, Pairs W v fourP → Calls Tryz.prog 22 #[v, .string ⟨#[100, 111, 103]⟩] W (TextsR W wd 0)) := Lib.hid fun v W hp => by
    have h := proveRef_any fourP [100, 111, 103] v W hp (by decide) (by decide)
    rw [four_prove, hwd] at h
    exact h
  have HCT : Hid (∀ v W, Pairs W v fourP → Calls Tryz.prog 22 #[v, .string ⟨#[99, 97, 116]⟩] W (TextsR W wc 0)) := Lib.hid fun v W hp => by
    have h := proveRef_any fourP [99, 97, 116] v W hp (by decide) (by decide)
    rw [four_prove, hwc] at h
    exact h
  have H1 : Hid (∀ v W, Strs W v (wd.map bt) → KecT W → Calls Tryz.prog 14 #[.string ⟨rt.toArray⟩, .string ⟨#[100, 111, 103]⟩, v] W fun e w' => e = .returned (.tuple #[.string ⟨#[112, 117, 112, 112, 121]⟩, .bool true, .int .i64 0]) ∧ Below W.heap.size W w') := Lib.hid fun v W hv hk => by
    have h := check_any rt [100, 111, 103] wd v W hv (by omega) hk
    rw [k1] at h
    exact h
  have H2 : Hid (∀ v W, Strs W v (wc.map bt) → KecT W → Calls Tryz.prog 14 #[.string ⟨rt.toArray⟩, .string ⟨#[99, 97, 116]⟩, v] W fun e w' => e = .returned (.tuple #[.string ⟨#[]⟩, .bool false, .int .i64 0]) ∧ Below W.heap.size W w') := Lib.hid fun v W hv hk => by
    have h := check_any rt [99, 97, 116] wc v W hv (by omega) hk
    rw [k2] at h
    exact h
  have H3 : Hid (∀ v W, Strs W v (wd.map bt ++ [⟨#[120]⟩]) → KecT W → Calls Tryz.prog 14 #[.string ⟨rt.toArray⟩, .string ⟨#[100, 111, 103]⟩, v] W fun e w' => e = .returned (.tuple #[.string ⟨#[]⟩, .bool false, .int .i64 70]) ∧ Below W.heap.size W w') := Lib.hid fun v W hv hk => by
    have h := check_any rt [100, 111, 103] (wd ++ [[120]]) v W (by rw [List.map_append]; exact hv) (by simp; omega) hk
    rw [k3] at h
    exact h
  have HKT := Lib.hid hK
  have HL1 := Lib.hid hl1
  clear hrt hwd hwc k1 k2 k3 hK hl1 hl2
  go_enter Tryz.func11, Tryz.ntmps11
  go_wp2_with fail
  refine (four_any _).mono ?_
  rintro e w1 ⟨⟨v1, rfl, hp1⟩, hb1⟩
  have HB1 := Lib.hid hb1
  have HP1 := Lib.hid hp1
  clear hb1 hp1
  go_wp2_with fail
  refine (HR.out _ _ HP1.out).mono ?_
  rintro e w2 ⟨rfl, hb2⟩
  have HB2 := Lib.hid (HB1.out.trans (hb2.mono HB1.out.size))
  clear hb2 HP1 HB1
  go_wp2_with fail
  refine (four_any _).mono ?_
  rintro e w3 ⟨⟨v3, rfl, hp3⟩, hb3⟩
  have HB3 := Lib.hid (HB2.out.trans (hb3.mono HB2.out.size))
  have HP3 := Lib.hid hp3
  clear hb3 hp3 HB2
  go_wp2_with fail
  refine (HD.out _ _ HP3.out).mono ?_
  rintro e w4 ⟨p4, c4, rfl, ho4, hb4⟩
  have HB4 := Lib.hid (HB3.out.trans (hb4.mono HB3.out.size))
  have HO4 := Lib.hid (OwnS.base ho4 HB3.out.size)
  clear hb4 ho4 HP3 HB3
  go_wp2_with fail
  refine (H1.out _ _ HO4.out.strs (HKT.out.belowP HB4.out)).mono ?_
  rintro e w5 ⟨rfl, hb5⟩
  have HB5 := Lib.hid (HB4.out.trans (hb5.mono HB4.out.size))
  have HO5 := Lib.hid (HO4.out.after hb5)
  clear hb5 HO4 HB4
  go_wp2_with fail
  refine (four_any _).mono ?_
  rintro e w6 ⟨⟨v6, rfl, hp6⟩, hb6⟩
  have HB6 := Lib.hid (HB5.out.trans (hb6.mono HB5.out.size))
  have HO6 := Lib.hid (HO5.out.after hb6)
  have HP6 := Lib.hid hp6
  clear hb6 hp6 HB5 HO5
  go_wp2_with fail
  refine (HCT.out _ _ HP6.out).mono ?_
  rintro e w7 ⟨p7, c7, rfl, ho7, hb7⟩
  have HB7 := Lib.hid (HB6.out.trans (hb7.mono HB6.out.size))
  have HO7 := Lib.hid (HO6.out.after hb7)
  have HS7 := Lib.hid ho7.strs
  clear hb7 ho7 HP6 HB6 HO6
  go_wp2_with fail
  refine (H2.out _ _ HS7.out (HKT.out.belowP HB7.out)).mono ?_
  rintro e w8 ⟨rfl, hb8⟩
  have HB8 := Lib.hid (HB7.out.trans (hb8.mono HB7.out.size))
  have HO8 := Lib.hid (HO7.out.after hb8)
  clear hb8 HB7 HO7 HS7
  go_wp2_with (at_builtin; refine wpList_appendT rfl _ _ 29 rfl w.heap.size Tryz.underlying29 infoStr _ (wd.map bt) rfl (HO8.out.after (laid1 w8 _)) ⟨w8.heap.size, 0, none⟩ 1 ⟨#[120]⟩ rfl ?c0 ?c1 ?c2 ?_)
  case c0 => exact cells_new_at rfl [.string ⟨#[120]⟩] 9 0 _ rfl
  case c1 => rw [List.length_map]; have := HL1.out; omega
  case c2 => have := HB8.out.size; simp; omega
  intro v9 w9 ho9 hg9
  have hb9 : Below w.heap.size w w9 := (HB8.out.alloc HB8.out.size _).grown hg9 (by have := HB8.out.size; simp; omega) (fun r e => (HO8.out.lt r e).1)
  have HS9 := Lib.hid ho9.strs
  have HB9 := Lib.hid hb9
  clear ho9 hg9 hb9 HO8 HB8
  go_wp2_with fail
  refine (H3.out _ _ HS9.out (HKT.out.belowP HB9.out)).mono ?_
  rintro e w10 ⟨rfl, hb10⟩
  have HB10 := Lib.hid (HB9.out.trans (hb10.mono HB9.out.size))
  clear hb10 HB9 HS9
  go_wp2_with fail
  go_ret
  exact ⟨rfl, HB10.out⟩
end Go.Proofs.YthicdhnjincflaaGreatDoor

namespace Go.Proofs.YthicdhnjincflaaGreatDoor
open Go.RowKit Go.Shelf Go.Lib
theorem infoLeaf : (Tryz.prog.info? 69).map (fun i => (i.zero, i.size, i.bytes)) = some (some (.agg #[.string ⟨#[]⟩, .string ⟨#[]⟩]), 2, 32) := by kernel_rfl
def OwnF (base : Nat) (w : World) (v : Value) (l : List PairD) : Prop := w.ownsRow base 69 2 v l.length (pairCells l)
theorem OwnF.nil (base : Nat) (w : World) : OwnF base w (.slice none 0 0) [] := World.ownsRow_nil _ _ _ _
theorem OwnF.lt {base : Nat} {w : World} {v : Value} {l : List PairD} (h : OwnF base w v l) : ∀ k, v.ownBlock = some k → base ≤ k ∧ k < w.heap.size := World.ownsRow.lt h
theorem OwnF.form {base : Nat} {w : World} {v : Value} {l : List PairD} (h : OwnF base w v l) : ∃ p c, v = .slice p l.length c := by
  obtain ⟨_, ⟨rfl, h0⟩ | ⟨g, cap, cur, rfl, _⟩⟩ := h
  · exact ⟨none, 0, by rw [h0]⟩
  · exact ⟨_, _, rfl⟩
theorem OwnF.of_block {base : Nat} {w w' : World} {v : Value} {l : List PairD} (h : OwnF base w v l) (hb : ∀ k, v.ownBlock = some k → w'.heap[k]? = w.heap[k]?) : OwnF base w' v l := by
  obtain ⟨h1, h2⟩ := h
  refine ⟨h1, ?_⟩
  rcases h2 with h2 | ⟨g, cap, cur, hv, hg, hh, r⟩
  · exact .inl h2
  · exact .inr ⟨g, cap, cur, hv, hg, by rw [hb g (by rw [hv]; rfl)]; exact hh, r⟩
theorem OwnF.after {base : Nat} {w w' : World} {v : Value} {l : List PairD} (h : OwnF base w v l) (hb : Below w.heap.size w w') : OwnF base w' v l := h.of_block fun k e => hb.block k (h.lt k e).2
theorem OwnF.alloc {base : Nat} {w : World} {v : Value} {l : List PairD} (h : OwnF base w v l) (o : Obj) : OwnF base (w.alloc o) v l := h.after (laid1 w o)
theorem OwnF.pairs {base : Nat} {w : World} {v : Value} {l : List PairD} (h : OwnF base w v l) : Pairs w v l := by
  have h1 := h
  obtain ⟨_, ⟨rfl, hn⟩ | ⟨g, cap, cur, rfl, hb, hg, hcap, _⟩⟩ := h1
  · obtain rfl : l = [] := List.length_eq_zero_iff.1 hn
    exact Pairs.nil _
  · refine ⟨some ⟨g, 0, none⟩, cap, rfl, hcap, .inr ⟨g, 0, rfl, (Array.getElem?_eq_some_iff.1 hg).1, fun i q hq => ?_⟩⟩
    have hi := (List.getElem?_eq_some_iff.1 hq).1
    have hc := fun j (hj : j < 2) => World.ownsRow.cellAt h (i * 2 + j) (by omega)
    rw [Nat.zero_add]
    refine ⟨?_, ?_⟩
    · have := hc 0 (by omega); rw [pairCells_at _ i 0 q hq (by omega)] at this; simpa using this
    · have := hc 1 (by omega); rw [pairCells_at _ i 1 q hq (by omega)] at this; simpa using this
theorem run_appendF {base : Nat} {w : World} {v : Value} {l : List PairD} (hown : OwnF base w v l) (ad : Addr) (c : Nat) (q : PairD)
    (hnews : ∀ j u, (pairCells [q])[j]? = some u → w.cell? (ad.add j) = some u) (h63 : l.length ≤ 1099511627776) (hbase : base ≤ w.heap.size) (ty : TypeId) :
    ∃ v' w', (Builtin.append_ #[67, 67] ty #[v, .slice (some ad) 1 c]).run Tryz.prog w = .ok v' w' ∧ OwnF base w' v' (l ++ [q]) ∧ w.grownBy w' v.ownBlock ∧ (v'.ownBlock = v.ownBlock ∨ v'.ownBlock = some w.heap.size) := by
  obtain ⟨i0, hi0, hz0, hz1, hz2⟩ := info_parts infoLeaf
  obtain ⟨v', w', hr, h1, h2, _, h3⟩ := run_append_own_at (P := Tryz.prog) w base 67 ty 69 i0 _ 2 32 Tryz.underlying67 hi0 hz0 hz1 hz2 rfl (by omega) v l.length (pairCells l) hown ad 1 c (pairCells [q]) (by rw [pairCells_length]; simp) hnews
    (fun u hu => by simp only [pairCells, List.flatMap_cons, List.flatMap_nil, List.append_nil, List.mem_cons, List.not_mem_nil, or_false] at hu; rcases hu with rfl | rfl <;> rfl) (by unfold maxLen; omega) (by omega) hbase
  refine ⟨v', w', hr, ?_, h2, h3⟩
  unfold OwnF
  rw [pairCells_append, List.length_append]
  exact h1
theorem step_appendF {ops : Array Oper} {o : Oper} {a : Act} {w : World} {K : Act → World → Prop} {Q : Exit → Act → World → Prop} {E : Prop} (hw : Region.wanted o (yielded ops a.tmps) = true) (s x : Operand)
    (ho : o.op = .call { callee := .builtin .append, args := #[s, x], argTypes := #[67, 67] })
    (base : Nat) (v : Value) (l : List PairD) (hs : a.eval s = v) (hown : OwnF base w v l) (ad : Addr) (c : Nat) (q : PairD) (hx : a.eval x = .slice (some ad) 1 c)
    (hnews : ∀ j u, (pairCells [q])[j]? = some u → w.cell? (ad.add j) = some u) (h63 : l.length ≤ 1099511627776) (hbase : base ≤ w.heap.size)
    (hK : ∀ v' w', OwnF base w' v' (l ++ [q]) → w.grownBy w' v.ownBlock → K (a.put o.dst v') w') :
    if Region.wanted o (yielded ops a.tmps) = true then Oper.wp Tryz.prog o a w K Q else E := by
  rw [if_pos hw]
  obtain ⟨v', w', hrun, r1, r2, _⟩ := run_appendF hown ad c q hnews h63 hbase o.type
  unfold Oper.wp execOp
  simp only [ho, resolve, invoke, builtin, Sem.run_bind, Sem.run_pure, Result.andThen_ok, List.map_toArray, List.map_cons, List.map_nil, hs, hx, hrun]
  exact hK _ _ r1 r2
theorem OwnF.base {b b' : Nat} {w : World} {v : Value} {l : List PairD} (h : OwnF b w v l) (hb : b' ≤ b) : OwnF b' w v l := by
  obtain ⟨h1, h2⟩ := h
  refine ⟨h1, ?_⟩
  rcases h2 with h2 | ⟨g, cap, cur, hv, hg, r⟩
  · exact .inl h2
  · exact .inr ⟨g, cap, cur, hv, by omega, r⟩
end Go.Proofs.YthicdhnjincflaaGreatDoor

namespace Go.Proofs.YthicdhnjincflaaGreatDoor
open Go.RowKit
def lf (l : List Nat) : Nat → UInt64 := fun j => UInt64.ofNat (l.getD j 0)
def P1 : List PairD := [([104, 111, 114, 115, 101], [115, 116, 97, 108, 108, 105, 111, 110])]
end Go.Proofs.YthicdhnjincflaaGreatDoor

namespace Go.Proofs.YthicdhnjincflaaGreatDoor
open Go.RowKit Go.Shelf Go.Lib
attribute [local go_sem] Oper.semAt_some
theorem step_appendP {ops : Array Oper} {o : Oper} {a : Act} {w : World} {K : Act → World → Prop} {Q : Exit → Act → World → Prop} {E : Prop} (hw : Region.wanted o (yielded ops a.tmps) = true) (s x : Operand)
    (ho : o.op = .call { callee := .builtin .append, args := #[s, x], argTypes := #[22, 22] })
    (base : Nat) (v : Value) (l : List PairD) (hs : a.eval s = v) (hown : OwnP base w v l) (ad : Addr) (c : Nat) (q : PairD) (hx : a.eval x = .slice (some ad) 1 c)
    (hnews : ∀ j u, (pairCells [q])[j]? = some u → w.cell? (ad.add j) = some u) (h63 : l.length ≤ 1099511627776) (hbase : base ≤ w.heap.size)
    (hK : ∀ v' w', OwnP base w' v' (l ++ [q]) → w.grownBy w' v.ownBlock → K (a.put o.dst v') w') :
    if Region.wanted o (yielded ops a.tmps) = true then Oper.wp Tryz.prog o a w K Q else E := by
  rw [if_pos hw]
  obtain ⟨v', w', hrun, r1, r2, _⟩ := run_appendP hown ad c q hnews h63 hbase o.type
  unfold Oper.wp execOp
  simp only [ho, resolve, invoke, builtin, Sem.run_bind, Sem.run_pure, Result.andThen_ok, List.map_toArray, List.map_cons, List.map_nil, hs, hx, hrun]
  exact hK _ _ r1 r2
set_option maxRecDepth 100000 in
set_option maxHeartbeats 6400000 in
theorem few_any (v : Value) (ps : List PairD) (w : World) (hv : Pairs w v ps) (hN : ps.length ≤ 1099511627776) :
    Calls Tryz.prog 12 #[v] w fun e w' => ∃ p c, e = .returned (.slice p (fewP 30 ps).length c) ∧ OwnP w.heap.size w' (.slice p (fewP 30 ps).length c) (fewP 30 ps) ∧ Below w.heap.size w w' := by
  obtain ⟨p, c, rfl, hc, hcell⟩ := hv
  have HC := Lib.hid hcell
  obtain ⟨n, hn⟩ : ∃ n, ps.length = n := ⟨_, rfl⟩
  obtain ⟨m, hm⟩ : ∃ m, (fewP 30 ps).length = m := ⟨_, rfl⟩
  have hmn : m = min 30 n := by rw [← hm, ← hn]; unfold fewP; rw [List.length_map, List.length_take]
  rw [hn] at hc ⊢
  rw [hn] at hN
  rw [hm]
  have HN := Lib.hid hn
  have HM := Lib.hid hm
  have HMN := Lib.hid hmn
  clear hcell hn hm hmn
  go_enter Tryz.func12, Tryz.ntmps12
  go_wp2_with fail
  go_loopw [3, 4] (fun v i wr => ∃ k : Nat, k ≤ m ∧ i = .int .i64 k ∧ Aside (OwnP w.heap.size wr v ((fewP 30 ps).take k)) ∧ Aside (Below w.heap.size w wr)) (fun _ i _ => m - (RowKit.intOf i).toNat)
  case atStart => exact ⟨0, Nat.zero_le _, rfl, OwnP.nil _ _, Below.refl _ _⟩
  case round =>
    obtain ⟨k, hk, rfl, HO, HB⟩ := hrel
    by_cases hlt : k < m
    · have hkn : k < n := by have := HMN.out; omega
      have hk40 : k < 30 := by have := HMN.out; omega
      obtain ⟨s, hs⟩ : ∃ s, ps[k]? = some s := ⟨_, List.getElem?_eq_getElem (by rw [HN.out]; exact hkn)⟩
      obtain ⟨bk, o, rfl, hbk, hcl⟩ : ∃ bk o, p = some ⟨bk, o, none⟩ ∧ bk < w.heap.size ∧ ∀ (j : Nat) q, ps[j]? = some q → w.cell? ⟨bk, o + j * 2, none⟩ = some (.string ⟨q.1.toArray⟩) ∧ w.cell? ⟨bk, o + j * 2 + 1, none⟩ = some (.string ⟨q.2.toArray⟩) := by
        rcases HC.out with h | ⟨bk, o, h1, h2, h3⟩
        · have h4 := congrArg List.length h
          rw [HN.out] at h4
          simp at h4
          omega
        · exact ⟨bk, o, h1, h2, h3⟩
      have hS : ∀ W, Below w.heap.size w W → W.cell? ⟨bk, o + k * 2, none⟩ = some (.string ⟨s.1.toArray⟩) ∧ W.cell? ⟨bk, o + k * 2 + 1, none⟩ = some (.string ⟨s.2.toArray⟩) := fun W hb => ⟨(hb.cell (p := ⟨bk, o + k * 2, none⟩) hbk).trans (hcl k _ hs).1, (hb.cell (p := ⟨bk, o + k * 2 + 1, none⟩) hbk).trans (hcl k _ hs).2⟩
      have HS := Lib.hid hS
      have hts : (fewP 30 ps).take (k + 1) = (fewP 30 ps).take k ++ [(s.1, s.2.take 100)] := fewP_take hs hk40
      have hll : ((fewP 30 ps).take k).length = k := by rw [List.length_take, HM.out]; omega
      obtain ⟨L, hL⟩ : ∃ L, (fewP 30 ps).take k = L := ⟨_, rfl⟩
      have ho := HO.out
      rw [hL] at hts hll ho
      obtain ⟨pv, cv, hv⟩ := ho.form
      rw [hll] at hv
      subst hv
      have HO1 := Lib.hid ho
      have HTS := Lib.hid hts
      have HLL := Lib.hid hll
      have g1 : (0 : Int) ≤ k := by omega
      have g2 : (k : Int) < n := by omega
      have g3 : (k : Int) < 30 := by omega
      obtain ⟨ky, vl⟩ := s
      have hsz : (⟨vl.toArray⟩ : ByteArray).size = vl.length := rfl
      dsimp only at HS HTS
      clear ho hts hll hL HO hcl hs hS hkn hk40
      obtain ⟨q, hq⟩ : ∃ q, min vl.length 100 = q := ⟨_, rfl⟩
      have h4 : min (vl.length : Int) 100 = (q : Int) := by omega
      have h5 : (0 : Int) ≤ (q : Int) := by omega
      have h6 : (q : Int) ≤ (vl.length : Int) := by omega
      have hx := extract_bt vl q
      rw [show vl.take q = vl.take 100 by rw [← hq, take_minL]] at hx
      have HX := Lib.hid hx
      clear hx hq
      go_wp2_with fail
      refine wp_region_held_drew (S := (fun W => W.cell? ⟨bk, o + k * 2, none⟩ = some (.string ⟨ky.toArray⟩) ∧ W.cell? ⟨bk, o + k * 2 + 1, none⟩ = some (.string ⟨vl.toArray⟩))) (by kernel_rfl) (HS.out _ HB.out.drew) (fun hHeld => ?_)
      refine wpAnyH_take (i := 0) (v := ?_) rfl (by kernel_rfl) (by kernel_rfl) (by kernel_rfl) (fun _ _ _ h => h) (.inl ⟨by rfl, ?_⟩) (by assumption) ?_
      rotate_left 1
      · intro w0 hSw
        go_simp <;> with_reducible rfl
      try simp only [Act.put, zq1, zq2, zq4, zq5, zq6]
      refine wpAnyH_take (i := 1) (v := ?_) rfl (by kernel_rfl) (by kernel_rfl) (by kernel_rfl) (fun _ _ _ h => h) (.inl ⟨by rfl, ?_⟩) (by assumption) ?_
      rotate_left 1
      · intro w0 hSw
        go_simp <;> with_reducible rfl
      try simp only [Act.put, zq1, zq2, zq3, zq4, zq5, zq6]
      refine wpAnyH_take (i := 2) (v := ?_) rfl (by kernel_rfl) (by kernel_rfl) (by kernel_rfl) (fun _ _ _ h => h) (.inl ⟨by rfl, ?_⟩) (by assumption) ?_
      rotate_left 1
      · intro w0 hSw
        go_simp <;> with_reducible rfl
      try simp only [Act.put, zq1, zq2, zq3, zq4, zq5, zq6]
      refine wpAnyH_take (i := 3) (v := ?_) rfl (by kernel_rfl) (by kernel_rfl) (by kernel_rfl) (fun _ _ _ h => h) (.inl ⟨by rfl, ?_⟩) (by assumption) ?_
      rotate_left 1
      · intro w0 hSw
        go_simp <;> with_reducible rfl
      try simp only [Act.put, zq1, zq2, zq3, zq4, zq5, zq6]
      refine wpAnyH_take (i := 4) (v := ?_) rfl (by kernel_rfl) (by kernel_rfl) (by kernel_rfl) (fun _ _ _ h => h) (.inl ⟨by rfl, ?_⟩) (by assumption) ?_
      rotate_left 1
      · intro w0 hSw
        go_simp <;> with_reducible rfl
      try simp only [Act.put, zq1, zq2, zq3, zq4, zq5, zq6]
      refine wpAnyH_take (i := 5) (v := ?_) rfl (by kernel_rfl) (by kernel_rfl) (by kernel_rfl) (fun _ _ _ h => h) (.inl ⟨by rfl, ?_⟩) (by assumption) ?_
      rotate_left 1
      · intro w0 hSw
        obtain ⟨z0, z1⟩ := hSw
        go_simp <;> with_reducible rfl
      try simp only [Act.put, zq1, zq2, zq3, zq4, zq5, zq6]
      refine wpAnyH_take (i := 6) (v := ?_) rfl (by kernel_rfl) (by kernel_rfl) (by kernel_rfl) (fun _ _ _ h => h) (.inl ⟨by rfl, ?_⟩) (by assumption) ?_
      rotate_left 1
      · intro w0 hSw
        go_simp <;> with_reducible rfl
      try simp only [Act.put, zq1, zq2, zq3, zq4, zq5, zq6]
      refine wpAnyH_take (i := 7) (v := ?_) rfl (by kernel_rfl) (by kernel_rfl) (by kernel_rfl) (fun _ _ _ h => h) (.inl ⟨by rfl, ?_⟩) (by assumption) ?_
      rotate_left 1
      · intro w0 hSw
        go_simp <;> with_reducible rfl
      try simp only [Act.put, zq1, zq2, zq3, zq4, zq5, zq6]
      refine wpAnyH_take (i := 8) (v := ?_) rfl (by kernel_rfl) (by kernel_rfl) (by kernel_rfl) (fun _ _ _ h => h) (.inl ⟨by rfl, ?_⟩) (by assumption) ?_
      rotate_left 1
      · intro w0 hSw
        go_simp <;> with_reducible rfl
      try simp only [Act.put, zq1, zq2, zq3, zq4, zq5, zq6]
      refine wpAnyH_take (i := 9) (v := ?_) rfl (by kernel_rfl) (by kernel_rfl) (by kernel_rfl) (fun _ _ _ h => h) (.inl ⟨by rfl, ?_⟩) (by assumption) ?_
      rotate_left 1
      · intro w0 hSw
        go_simp <;> with_reducible rfl
      try simp only [Act.put, zq1, zq2, zq3, zq4, zq5, zq6]
      refine wpAnyH_take (i := 10) (v := ?_) rfl (by kernel_rfl) (by kernel_rfl) (by kernel_rfl) (fun _ _ _ h => h) (.inl ⟨by rfl, ?_⟩) (by assumption) ?_
      rotate_left 1
      · intro w0 hSw
        obtain ⟨z0, z1⟩ := hSw
        go_simp <;> with_reducible rfl
      try simp only [Act.put, zq1, zq2, zq3, zq4, zq5, zq6]
      refine wpAnyH_take (i := 11) (v := ?_) rfl (by kernel_rfl) (by kernel_rfl) (by kernel_rfl) (fun _ _ _ h => h) (.inl ⟨by rfl, ?_⟩) (by assumption) ?_
      rotate_left 1
      · intro w0 hSw
        go_simp <;> with_reducible rfl
      try simp only [Act.put, zq1, zq2, zq3, zq4, zq5, zq6]
      refine wpAnyH_take (i := 12) (v := ?_) rfl (by kernel_rfl) (by kernel_rfl) (by kernel_rfl) (fun _ _ _ h => h) (.inl ⟨by rfl, ?_⟩) (by assumption) ?_
      rotate_left 1
      · intro w0 hSw
        go_simp <;> with_reducible rfl
      try simp only [Act.put, zq1, zq2, zq3, zq4, zq5, zq6]
      refine wpAnyH_take (i := 13) (v := ?_) rfl (by kernel_rfl) (by kernel_rfl) (by kernel_rfl) (fun _ _ _ h => h) (.inl ⟨by rfl, ?_⟩) (by assumption) ?_
      rotate_left 1
      · intro w0 hSw
        go_simp <;> with_reducible rfl
      try simp only [Act.put, zq1, zq2, zq3, zq4, zq5, zq6]
      refine wpAnyH_take (i := 14) (v := ?_) rfl (by kernel_rfl) (by kernel_rfl) (by kernel_rfl) (fun _ _ _ h => h) (.inl ⟨by rfl, ?_⟩) (by assumption) ?_
      rotate_left 1
      · intro w0 hSw
        go_simp <;> with_reducible rfl
      try simp only [Act.put, zq1, zq2, zq3, zq4, zq5, zq6]
      refine wpAnyH_take (i := 15) (v := ?_) rfl (by kernel_rfl) (by kernel_rfl) (by kernel_rfl) (fun _ _ _ h => h) (.inl ⟨by rfl, ?_⟩) (by assumption) ?_
      rotate_left 1
      · intro w0 hSw
        obtain ⟨z0, z1⟩ := hSw
        go_simp <;> with_reducible rfl
      try simp only [Act.put, zq1, zq2, zq3, zq4, zq5, zq6]
      refine wpAnyH_take (i := 16) (v := ?_) rfl (by kernel_rfl) (by kernel_rfl) (by kernel_rfl) (fun _ _ _ h => h) (.inl ⟨by rfl, ?_⟩) (by assumption) ?_
      rotate_left 1
      · intro w0 hSw
        go_simp <;> with_reducible rfl
      try simp only [Act.put, zq1, zq2, zq3, zq4, zq5, zq6]
      refine wpAnyH_take (i := 17) (v := ?_) rfl (by kernel_rfl) (by kernel_rfl) (by kernel_rfl) (fun _ _ _ h => h) (.inl ⟨by rfl, ?_⟩) (by assumption) ?_
      rotate_left 1
      · intro w0 hSw
        go_simp <;> with_reducible rfl
      try simp only [Act.put, zq1, zq2, zq3, zq4, zq5, zq6]
      refine wpAnyH_take (i := 18) (v := ?_) rfl (by kernel_rfl) (by kernel_rfl) (by kernel_rfl) (fun _ _ _ h => h) (.inl ⟨by rfl, ?_⟩) (by assumption) ?_
      rotate_left 1
      · intro w0 hSw
        go_simp <;> with_reducible rfl
      try simp only [Act.put, zq1, zq2, zq3, zq4, zq5, zq6]
      refine wpAnyH_take (i := 19) (v := ?_) rfl (by kernel_rfl) (by kernel_rfl) (by kernel_rfl) (fun _ _ _ h => h) (.inl ⟨by rfl, ?_⟩) (by assumption) ?_
      rotate_left 1
      · intro w0 hSw
        go_simp <;> with_reducible rfl
      try simp only [Act.put, zq1, zq2, zq3, zq4, zq5, zq6]
      refine wpAnyH_ready (rs := [20]) (by kernel_rfl) (by simp) ?_
      refine AllReadyH.cons rfl (fun K hK => ?_) AllReadyH.nil
      go_simp
      obtain ⟨w2, hal⟩ : ∃ W, (wr.alloc (.cells #[.string ⟨ky.toArray⟩, .string ((⟨vl.toArray⟩ : ByteArray).extract 0 q)] 40)).drew = W := ⟨_, rfl⟩
      have hb2 : Below wr.heap.size wr w2 := by rw [← hal]; exact (laid1 wr _).drew
      have b2 : Below w.heap.size w w2 := HB.out.trans (hb2.mono HB.out.size)
      have HO2 := Lib.hid (HO1.out.after hb2)
      have hn2 : HasCells w2 wr.heap.size [.string ⟨ky.toArray⟩, .string ((⟨vl.toArray⟩ : ByteArray).extract 0 q)] 40 := by rw [← hal]; exact (HasCells.new wr [.string ⟨ky.toArray⟩, .string ((⟨vl.toArray⟩ : ByteArray).extract 0 q)] 40).kept rfl
      rw [HX.out] at hn2
      have HN2 := Lib.hid hn2
      have HB2 := Lib.hid b2
      rw [hal]
      clear hal hn2 b2 hb2
      refine hK.out _ _ (HS.out _ HB2.out) (fun hHeld => ?_)
      clear hK K
      try simp only [Act.put, zq1, zq2, zq3, zq4, zq5, zq6]
      refine wpAnyH_ready (rs := [21]) (by kernel_rfl) (by simp) ?_
      refine AllReadyH.cons rfl (fun K hK => ?_) AllReadyH.nil
      refine step_appendP (by rfl) _ _ rfl w.heap.size _ L rfl HO2.out ⟨wr.heap.size, 0, none⟩ 1 (ky, vl.take 100) rfl ?f0 ?f1 ?f2 ?_
      case f0 => exact fun j u hu => by rw [addr_add]; exact HN2.out.cell hu
      case f1 => rw [HLL.out]; omega
      case f2 => exact HB2.out.size
      intro v3 w3 ho3 hg3
      have b3 : Below w.heap.size w w3 := HB2.out.grown hg3 HB2.out.size (fun q e => (HO2.out.lt q e).1)
      have ho3b : OwnP w.heap.size w3 v3 ((fewP 30 ps).take (k + 1)) := by rw [HTS.out]; exact ho3
      have HO3 := Lib.hid ho3b
      have HB3 := Lib.hid b3
      clear ho3 hg3 ho3b b3
      refine hK.out _ _ (HS.out _ HB3.out) (fun hHeld => ?_)
      clear hK K
      try simp only [Act.put, zq1, zq2, zq3, zq4, zq5, zq6]
      refine wpAnyH_take (i := 22) (v := ?_) rfl (by kernel_rfl) (by kernel_rfl) (by kernel_rfl) (fun _ _ _ h => h) (.inl ⟨by rfl, ?_⟩) (by assumption) ?_
      rotate_left 1
      · intro w0 hSw
        go_simp <;> with_reducible rfl
      try simp only [Act.put, zq1, zq2, zq3, zq4, zq5, zq6]
      refine wpAnyH_done (by kernel_rfl) ?_ 0
      go_wp2_with fail
      go_roundw
      case rel => exact ⟨k + 1, by omega, by go_num, HO3.out, HB3.out⟩
      case measure => simp [RowKit.intOf]; omega
    · have hmk : k = m := by omega
      subst hmk
      have ho := HO.out
      rw [List.take_of_length_le (by rw [HM.out]; exact Nat.le_refl _)] at ho
      obtain ⟨pv, cv, hv⟩ := ho.form
      rw [HM.out] at hv
      subst hv
      have HO1 := Lib.hid ho
      clear ho HO
      by_cases hkn : k < n
      · have g2 : (k : Int) < n := by omega
        have g3 : ¬ (k : Int) < 30 := by have := HMN.out; omega
        go_wp2
        go_ret
        exact ⟨_, _, rfl, HO1.out, HB.out⟩
      · have g2 : ¬ (k : Int) < n := by omega
        go_wp2
        go_ret
        exact ⟨_, _, rfl, HO1.out, HB.out⟩
set_option maxRecDepth 100000 in
set_option maxHeartbeats 3200000 in
theorem plain_any (ps : List PairD) (key : List UInt8) (v : Value) (w : World) (hv : Pairs w v ps) (hN : ps.length ≤ 1099511627776) :
    Calls Tryz.prog 15 #[v, .string ⟨key.toArray⟩] w fun e w' => e = .returned (.tuple #[.string ⟨(plainP ps key).1.toArray⟩, .bool (plainP ps key).2]) ∧ w' = w := by
  obtain ⟨p, c, rfl, hc, hcell⟩ := hv
  have HC := Lib.hid hcell
  obtain ⟨R, hR⟩ : ∃ R, plainP ps key = R := ⟨_, rfl⟩
  rw [hR]
  obtain ⟨n, hn⟩ : ∃ n, ps.length = n := ⟨_, rfl⟩
  rw [hn] at hc hN ⊢
  have HN := Lib.hid hn
  have HR := Lib.hid hR
  clear hcell hn hR
  go_enter Tryz.func15, Tryz.ntmps15
  go_wp2_with fail
  go_loopw [6] (fun i wr => ∃ k : Nat, k ≤ n ∧ i = .int .i64 k ∧ wr = w ∧ Aside (plainP (ps.drop k) key = R)) (fun i _ => n - (RowKit.intOf i).toNat)
  case atStart => exact ⟨0, Nat.zero_le _, rfl, rfl, HR.out⟩
  case round =>
    obtain ⟨k, hk, rfl, rfl, HPL⟩ := hrel
    by_cases hlt : k < n
    · obtain ⟨s, hs⟩ : ∃ s, ps[k]? = some s := ⟨_, List.getElem?_eq_getElem (by rw [HN.out]; exact hlt)⟩
      obtain ⟨bk, o, rfl, hbk, hcl⟩ : ∃ bk o, p = some ⟨bk, o, none⟩ ∧ bk < wr.heap.size ∧ ∀ (j : Nat) q, ps[j]? = some q → wr.cell? ⟨bk, o + j * 2, none⟩ = some (.string ⟨q.1.toArray⟩) ∧ wr.cell? ⟨bk, o + j * 2 + 1, none⟩ = some (.string ⟨q.2.toArray⟩) := by
        rcases HC.out with h | ⟨bk, o, h1, h2, h3⟩
        · have h4 := congrArg List.length h
          rw [HN.out] at h4
          simp at h4
          omega
        · exact ⟨bk, o, h1, h2, h3⟩
      obtain ⟨c0, c1⟩ := hcl k s hs
      have hd : ps.drop k = s :: ps.drop (k + 1) := by
        obtain ⟨h1, h2⟩ := List.getElem?_eq_some_iff.1 hs
        rw [List.drop_eq_getElem_cons h1, h2]
      have hpl := HPL.out
      rw [hd] at hpl
      unfold plainP at hpl
      obtain ⟨ky, vl⟩ := s
      dsimp only at hpl c0 c1
      have g1 : (0 : Int) ≤ k := by omega
      have g2 : (k : Int) < n := by omega
      clear hcl hs hd HPL
      by_cases hkk : ky = key
      · have q1 : (ky == key) = true := by rw [hkk]; exact beq_self_eq_true _
        rw [if_pos hkk] at hpl
        subst hpl
        clear hkk
        go_wp2_with fail
        go_ret2
        exact ⟨rfl, rfl⟩
      · have q1 : (ky == key) = false := by rw [beq_eq_false_iff_ne]; exact hkk
        rw [if_neg hkk] at hpl
        have HPL := Lib.hid hpl
        clear hpl hkk
        go_wp2_with fail
        go_roundw
        case rel => exact ⟨k + 1, by omega, by go_num, trivial, HPL.out⟩
        case measure => simp [RowKit.intOf]; omega
    · have g2 : ¬ (k : Int) < n := by omega
      have hpl := HPL.out
      rw [List.drop_of_length_le (by rw [HN.out]; omega)] at hpl
      unfold plainP at hpl
      subst hpl
      go_wp2_with fail
      go_ret2
      exact ⟨rfl, rfl⟩
end Go.Proofs.YthicdhnjincflaaGreatDoor
